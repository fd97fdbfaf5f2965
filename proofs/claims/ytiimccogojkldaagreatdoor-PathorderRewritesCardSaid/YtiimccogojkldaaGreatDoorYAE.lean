/- The texts I5 I6 I7 I8 TW L3, one behind the other. -/
import Derived.Test.YtiimccogojkldaaGreatDoorYAD
import Derived.Test.YtiimccogojkldaaGreatDoorYAB
import Derived.Sort.Walk0
import Derived.Laws.Cover1
import Derived.OrdersHeld
import Derived.StillTail
/- size. -/
namespace Go.Proofs.YtiimccogojkldaaGreatDoor
open Go.RowKit Go.Hw Go
set_option linter.unusedVariables false
set_option linter.unusedSimpArgs false

open Go.Shelf Tm
attribute [local go_sem] Oper.semAt_some
def dmx (pre : List Nd) : Nat := pre.foldl (fun m x => max m x.d) 0
theorem dmx_snoc (pre : List Nd) (x : Nd) : dmx (pre ++ [x]) = max (dmx pre) x.d := by unfold dmx; rw [List.foldl_append]; rfl
theorem nodes_max : ∀ (t : Tm) (d m : Nat), d ≤ m + 1 → ((nodesD d t).map (·.2)).foldl max m = max m (d + t.depth - 1) := by
  refine Tm.ind (fun nm so L ih d m hm => ?_)
  have hL : ∀ (L : List Tm) (d m : Nat), 1 ≤ d → d ≤ m + 1 → (∀ x ∈ L, ∀ (d m : Nat), d ≤ m + 1 → ((nodesD d x).map (·.2)).foldl max m = max m (d + x.depth - 1)) → ((nodesDs d L).map (·.2)).foldl max m = max m (d - 1 + depths L) := by
    intro L
    induction L with
    | nil => intro d m h1 h2 _; simp [nodesDs, depths]; omega
    | cons a L ihL =>
      intro d m h1 h2 h
      simp only [nodesDs, List.map_append, List.foldl_append, depths]
      rw [h a (List.mem_cons_self ..) d m h2, ihL d _ h1 (by omega) (fun x hx => h x (List.mem_cons_of_mem _ hx))]
      omega
  rw [nodesD_eq, depth_eq]
  simp only [List.map_cons, List.foldl_cons, Tm.kids]
  rw [hL L (d + 1) (max m d) (by omega) (by omega) ih]
  omega
theorem dmx_all {xs : List Nd} {t : Tm} (h : xs.map Nd.pr = nodesD 1 t) : dmx xs = t.depth := by
  have h1 := nodes_max t 1 0 (by omega)
  rw [← h, List.map_map] at h1
  have h2 : dmx xs = (xs.map ((fun x => x.2) ∘ Nd.pr)).foldl max 0 := by
    unfold dmx
    rw [List.foldl_map]
    rfl
  rw [h2, h1]
  have := depth_eq t
  omega
def szF (t : Tm) : Nat := if wf nmB t then t.size else 0
def dpF (t : Tm) : Nat := if wf nmB t then t.depth else 0
set_option maxRecDepth 100000 in
set_option maxHeartbeats 4000000 in
theorem size_x (t : Tm) (v : Value) (w : World) (htab : AscT w) (hR : TmR (fun k => k < w.heap.size) w t v) (hsz : (t.size : Int) ≤ 1000000000000) : Calls Tryz.prog 100 #[v] w fun e w' => e = .returned (.tuple #[.int .i64 (szF t : Nat), .int .i64 (dpF t : Nat)]) ∧ Ext w w' := by
  have HR := Lib.hid hR
  obtain ⟨a, cap, rfl, hT⟩ := hR
  dsimp only [tV]
  have HWF := Lib.hid (fun W (hW : Ext w W) => wellFormed_x t _ W (asc_ext htab hW) ((HR.out.ext hW).weaken (fun k hk => Nat.lt_of_lt_of_le hk hW.size)) hsz)
  dsimp only [tV] at HWF
  have hE3 : Ext w (((w.alloc (.cells #[.string t.name, .string t.sort, .slice a t.kids.length cap] 25)).alloc (.cells #[.int .i64 0] 3)).alloc (.cells #[.int .i64 0] 3)) := (((Upd.refl (fun _ => False) w).alloc _).alloc _).alloc _
  have hs3 : (((w.alloc (.cells #[.string t.name, .string t.sort, .slice a t.kids.length cap] 25)).alloc (.cells #[.int .i64 0] 3)).alloc (.cells #[.int .i64 0] 3)).heap.size = w.heap.size + 3 := by simp
  have hb1 : (((w.alloc (.cells #[.string t.name, .string t.sort, .slice a t.kids.length cap] 25)).alloc (.cells #[.int .i64 0] 3)).alloc (.cells #[.int .i64 0] 3)).heap[w.heap.size]? = some (.cells #[.string t.name, .string t.sort, .slice a t.kids.length cap] 25 (0, 0)) := allocOld (allocOld (alloc0 _ _) _) _
  have hb2 : Boxed (((w.alloc (.cells #[.string t.name, .string t.sort, .slice a t.kids.length cap] 25)).alloc (.cells #[.int .i64 0] 3)).alloc (.cells #[.int .i64 0] 3)) (w.heap.size + 1) 3 (.int .i64 0) := allocOld (alloc_at _ _ (by simp)) _
  have hb3 : Boxed (((w.alloc (.cells #[.string t.name, .string t.sort, .slice a t.kids.length cap] 25)).alloc (.cells #[.int .i64 0] 3)).alloc (.cells #[.int .i64 0] 3)) (w.heap.size + 1 + 1) 3 (.int .i64 0) := alloc_at _ _ (by simp)
  refine (callsIn_wide (n := 9)).1 ?_
  have hro : Fence.wide.round = none := rfl
  have hd : Fence.wide.depth = none := rfl
  have hf : ∀ k, Fence.wide.fn k := fun _ => trivial
  have h1 : 1 ≤ 9 := by omega
  refine callsIn_of_wp_marks Tryz.func100 rfl trivial ?_ hro
  have c0 := cellRow hb1 0 (.string t.name) rfl
  have c1 := cellRow hb1 1 (.string t.sort) rfl
  have c2 := cellRow hb1 2 (.slice a t.kids.length cap) rfl
  simp only [Tryz.ntmps100, List.size_toArray, List.length_cons, List.length_nil, Nat.reduceAdd, Nat.reduceSub, Array.replicate_succ, Array.replicate_zero, List.push_toArray, List.append_toArray, List.nil_append, List.cons_append]
  gi_wp2
  generalize (((w.alloc (.cells #[.string t.name, .string t.sort, .slice a t.kids.length cap] 25)).alloc (.cells #[.int .i64 0] 3)).alloc (.cells #[.int .i64 0] 3)) = w3 at *
  generalize hB1 : w.heap.size + 1 = B1 at *
  generalize hB0 : w.heap.size = B0 at *
  refine (callsIn_wide.2 (HWF.out _ hE3)).mono ?_
  rintro e w4 ⟨rfl, hE4⟩
  have hb14 := hE4.heap hb1 (fun h => h)
  have hb24 : Boxed w4 B1 3 (.int .i64 0) := hE4.heap hb2 (fun h => h)
  have hb34 : Boxed w4 (B1 + 1) 3 (.int .i64 0) := hE4.heap hb3 (fun h => h)
  have hE := hE3.ext hE4
  have hsz4 := hE4.size
  have c0 := cellRow hb14 0 (.string t.name) rfl
  have c1 := cellRow hb14 1 (.string t.sort) rfl
  have c2 := cellRow hb14 2 (.slice a t.kids.length cap) rfl
  have r2 := hb24.cell
  have r3 := hb34.cell
  have s2 := hb24.frozen
  have s3 := hb34.frozen
  clear hE4 hE3 hb1 hb2 hb3
  cases hwf : wf nmB t
  · have e1 : szF t = 0 := by unfold szF; rw [hwf]; rfl
    have e2 : dpF t = 0 := by unfold dpF; rw [hwf]; rfl
    gi_wp2
    have i2 : Boxed (w4.setCell ⟨B1, 0, none⟩ (.int .i64 0)) B1 3 (.int .i64 0) := setBlock hb24 0 (.int .i64 0)
    have i3 : Boxed (w4.setCell ⟨B1, 0, none⟩ (.int .i64 0)) (B1 + 1) 3 (.int .i64 0) := Boxed.other hb34 (by omega) _
    have i2' : Boxed ((w4.setCell ⟨B1, 0, none⟩ (.int .i64 0)).setCell ⟨B1 + 1, 0, none⟩ (.int .i64 0)) B1 3 (.int .i64 0) := Boxed.other i2 (by omega) _
    have i3' : Boxed ((w4.setCell ⟨B1, 0, none⟩ (.int .i64 0)).setCell ⟨B1 + 1, 0, none⟩ (.int .i64 0)) (B1 + 1) 3 (.int .i64 0) := setBlock i3 0 (.int .i64 0)
    have q2 := i2'.cell
    have q3 := i3'.cell
    refine ⟨.tuple #[.int .i64 0, .int .i64 0], by simp [results, Tryz.f100, go_sem, q2, q3], by rw [e1, e2]; rfl, (hE.setNew (show w.heap.size ≤ B1 by omega) _).setNew (show w.heap.size ≤ B1 + 1 by omega) _⟩
  have e1 : szF t = t.size := by unfold szF; rw [hwf]; rfl
  have e2 : dpF t = t.depth := by unfold dpF; rw [hwf]; rfl
  gi_wp2
  refine (callsIn_wide.2 (nodes_x t (.slice a t.kids.length cap) w4 ⟨_, _, _, rfl⟩)).mono ?_
  rintro e w5 ⟨rfl, hE5, hs5, hb5, hv5⟩
  have hc2 : Boxed w5 B1 3 (.int .i64 0) := hE5.heap hb24 (fun h => h)
  have hc3 : Boxed w5 (B1 + 1) 3 (.int .i64 0) := hE5.heap hb34 (fun h => h)
  have hEE := hE.ext hE5
  have hZ0 := hb34.lt
  clear r2 r3 s2 s3 c0 c1 c2 hb14 hb24 hb34
  obtain ⟨Z, hZ⟩ : ∃ Z, w4.heap.size = Z := ⟨_, rfl⟩
  rw [hZ] at hs5 hb5 hv5 hsz4 hZ0 ⊢
  gi_wp2
  refine wpIn_rangeFunc_ownH hro h1 (gf := 113) (lb := #[.pointer (some ⟨Z + 1, 0, none⟩), .pointer (some ⟨Z, 0, none⟩)]) rfl trivial (enters_of Tryz.func113 (by kernel_rfl) rfl)
    (nodes_stops Fence.wide hd (9 - 1) hf hro (Z + 1) Z (fun k => k = B1 ∨ k = B1 + 1) (fun k => k < B0) w5 (by omega) (by omega) (by omega) (by omega) t a cap (hB0 ▸ hT.ext hEE) hv5 hb5 (by omega)) (fun h k => KpG.trans h k) (fun W l o o' _ hl hc _ => KpG.putObj W l o o' hl hc) (Below.refl _ _) (fun _ => rfl)
    (fun pre W => (Boxed W B1 3 (.int .i64 (pre.length : Int)) ∧ Boxed W (B1 + 1) 3 (.int .i64 (dmx pre : Int))) ∧ Below B0 w W)
    (fun _ _ _ => False)
    (OwnFrom.and (OwnFrom.and (Own.from (boxed_own B1 3 (fun pre : List Nd => Value.int .i64 (pre.length : Int))) _) (Own.from (boxed_own (B1 + 1) 3 (fun pre : List Nd => Value.int .i64 (dmx pre : Int))) _)) (ownFrom_below (by omega) (by omega)))
    (fun _ _ _ _ _ hs _ _ => hs)
    ⟨⟨hc2, hc3⟩, hB0 ▸ Ext.below hEE⟩
    (fun x a' W => a' = { tmps := #[(.agg #[.string t.name, .string t.sort, .slice a t.kids.length cap]), .pointer (some ⟨B0, 0, none⟩), .pointer (some ⟨B1, 0, none⟩), .pointer (some ⟨B1 + 1, 0, none⟩), undef, .int .i64 (x.d : Int), (.agg #[.string t.name, .string t.sort, .slice a t.kids.length cap]), .bool true, .bool false, (.agg #[.string t.name, .string t.sort, .slice a t.kids.length cap]), (.func (.func 113) #[] #[.pointer (some ⟨Z + 1, 0, none⟩), .pointer (some ⟨Z, 0, none⟩)]), (.agg #[.string x.t.name, .string x.t.sort, .slice x.a x.t.kids.length x.cap]), .int .i64 (x.d : Int), undef, undef, undef, undef, undef, undef, undef], defers := [] })
    (fun x a' _ X Y row hs hg hr => hs) ?assign ?body ?done ?stop
  case assign =>
    rintro l pre x W K ⟨⟨i1, i2⟩, i3⟩ hK
    dsimp only [Nd.encs, tV]
    gi_wp2
    exact hK _ _ (KeepsFrom.refl _ _) (KpG.refl _ _) ⟨⟨i1, i2⟩, i3⟩ rfl
  case body =>
    rintro l pre x a' W hl hrec ⟨⟨i1, i2⟩, i3⟩ rfl hlt
    have hd1 := dmx_snoc pre x
    have r2 := i1.cell
    have r3 := i2.cell
    have s2 := i1.frozen
    have s3 := i2.frozen
    have hwn : IntKind.i64.wrap ((pre.length : Int) + 1) = (pre.length : Int) + 1 := IntWalk.i64_in _ (by omega)
    have u2 : Boxed (W.setCell ⟨B1, 0, none⟩ (.int .i64 ((pre.length : Int) + 1))) (B1 + 1) 3 (.int .i64 (dmx pre : Int)) := Boxed.other i2 (by omega) _
    have u3 := u2.cell
    have u4 := u2.frozen
    gi_wp2
    have st := ((Upd.refl (fun k => k = B1 ∨ k = B1 + 1) W).setCell (p := ⟨B1, 0, none⟩) (.inl (.inl rfl)) (.int .i64 ((pre.length : Int) + 1))).setCell (p := ⟨B1 + 1, 0, none⟩) (.inl (.inr rfl)) (.int .i64 (max (dmx pre : Int) (x.d : Int)))
    have e3 : ((dmx (pre ++ [x]) : Nat) : Int) = max (dmx pre : Int) (x.d : Int) := by rw [hd1]; omega
    have u1 : Boxed (W.setCell ⟨B1, 0, none⟩ (.int .i64 ((pre.length : Int) + 1))) B1 3 (.int .i64 ((pre.length : Int) + 1)) := setBlock i1 0 _
    refine ⟨keeps_upd _ st (fun k o e ho => ?_), KpG.of_upd st (fun k _ e => e), ⟨?_, ?_⟩, (i3.setCell (p := ⟨B1, 0, none⟩) (by show B0 ≤ B1; omega) _).setCell (p := ⟨B1 + 1, 0, none⟩) (by show B0 ≤ B1 + 1; omega) _⟩
    · rcases e with e | e
      · subst e; rw [show W.heap[k]? = _ from i1] at ho; cases ho; rfl
      · subst e; rw [show W.heap[B1 + 1]? = _ from i2] at ho; cases ho; rfl
    · rw [List.length_append]
      exact Boxed.other u1 (by omega) _
    · rw [e3]
      exact setBlock u2 0 _
  case done =>
    rintro D xs W hD hS ⟨⟨i1, i2⟩, i3⟩ hK
    have r2 := i1.cell
    have r3 := i2.cell
    have s2 := i1.frozen
    have s3 := i2.frozen
    gi_wp2
    refine wpIn_wide.2 ?_
    go_region
    gi_wp2
    have st := ((Upd.refl (fun k => k = B1 ∨ k = B1 + 1) W).setCell (p := ⟨B1, 0, none⟩) (.inl (.inl rfl)) (.int .i64 (xs.length : Int))).setCell (p := ⟨B1 + 1, 0, none⟩) (.inl (.inr rfl)) (.int .i64 (dmx xs : Int))
    have hK1 := (keeps_upd 0 st (fun k o e ho => by
      rcases e with e | e
      · subst e; rw [show W.heap[k]? = _ from i1] at ho; cases ho; rfl
      · subst e; rw [show W.heap[B1 + 1]? = _ from i2] at ho; cases ho; rfl)).same D _ (Nat.zero_le _) hK rfl
    have hK' : ((W.setCell ⟨B1, 0, none⟩ (.int .i64 (xs.length : Int))).setCell ⟨B1 + 1, 0, none⟩ (.int .i64 (dmx xs : Int))).drew.heap[D]? = some (.deferred (some [])) := hK1
    have u1 : Boxed (W.setCell ⟨B1, 0, none⟩ (.int .i64 (xs.length : Int))) B1 3 (.int .i64 (xs.length : Int)) := setBlock i1 0 _
    have u2 : Boxed (W.setCell ⟨B1, 0, none⟩ (.int .i64 (xs.length : Int))) (B1 + 1) 3 (.int .i64 (dmx xs : Int)) := Boxed.other i2 (by omega) _
    have u3 : Boxed ((W.setCell ⟨B1, 0, none⟩ (.int .i64 (xs.length : Int))).setCell ⟨B1 + 1, 0, none⟩ (.int .i64 (dmx xs : Int))).drew B1 3 (.int .i64 (xs.length : Int)) := Boxed.other u1 (by omega) _
    have u4 : Boxed ((W.setCell ⟨B1, 0, none⟩ (.int .i64 (xs.length : Int))).setCell ⟨B1 + 1, 0, none⟩ (.int .i64 (dmx xs : Int))).drew (B1 + 1) 3 (.int .i64 (dmx xs : Int)) := setBlock u2 0 _
    refine ⟨by simp, .inl ⟨_, _, rfl, run_takeDeferred hK', ?_⟩⟩
    have hc2 := cell_kept u3.cell (grownBy_putObj' _ D (.deferred none)) (fun r e => by cases e; exact ⟨_, hK', rfl⟩)
    have hc3 := cell_kept u4.cell (grownBy_putObj' _ D (.deferred none)) (fun r e => by cases e; exact ⟨_, hK', rfl⟩)
    have hl : xs.length = t.size := by have := congrArg List.length hS; rw [List.length_map, nodesD_len] at this; exact this
    refine ⟨.tuple #[.int .i64 (xs.length : Int), .int .i64 (dmx xs : Int)], ?_, ?_⟩
    · simp [results, Tryz.f100, go_sem, hc2, hc3]
    · refine ⟨by rw [e1, e2, hl, dmx_all hS], ?_⟩
      have hEW : Ext w ((W.setCell ⟨B1, 0, none⟩ (.int .i64 (xs.length : Int))).setCell ⟨B1 + 1, 0, none⟩ (.int .i64 (dmx xs : Int))).drew := ((below_ext i3 (by omega)).setNew (show w.heap.size ≤ B1 by omega) _).setNew (show w.heap.size ≤ B1 + 1 by omega) _ |>.drew
      exact hEW.trans' (Upd.of_grown (grownBy_putObj' _ D (.deferred none))) (fun i hi e => by cases e; omega)
  case stop =>
    rintro D c pre W _ _ h _
    exact h.elim

end Go.Proofs.YtiimccogojkldaaGreatDoor

/- Size, and Small of the reference. -/
namespace Go.Proofs.YtiimccogojkldaaGreatDoor
open Go.RowKit Go.Hw Go
set_option linter.unusedVariables false
set_option linter.unusedSimpArgs false

open Tm
theorem smalls_snoc (d : Nat) (x : Tm) : ∀ (L : List Tm) (left : Int), 0 ≤ left → smalls nmB d left (L ++ [x]) = if smalls nmB d left L < 0 then smalls nmB d left L else small nmB d (smalls nmB d left L) x
  | [], left, h => by
    simp only [List.nil_append, smalls]
    have hn : ¬ left < 0 := by omega
    simp only [hn, if_false]
    split <;> rfl
  | a :: L, left, h => by
    simp only [List.cons_append, smalls]
    by_cases hn : small nmB d left a < 0
    · simp only [hn, if_true]
    · simp only [hn, if_false]
      exact smalls_snoc d x L _ (by omega)
theorem smalls_neg (d : Nat) (M : List Tm) : ∀ (L : List Tm) (left : Int), 0 ≤ left → smalls nmB d left L < 0 → smalls nmB d left (L ++ M) = smalls nmB d left L
  | [], left, h, h2 => by simp only [smalls] at h2; omega
  | a :: L, left, h, h2 => by
    simp only [List.cons_append, smalls] at h2 ⊢
    by_cases hn : small nmB d left a < 0
    · rw [if_pos hn, if_pos hn]
    · rw [if_neg hn] at h2 ⊢
      rw [if_neg hn]
      exact smalls_neg d M L _ (by omega) h2
theorem small_bd (d : Nat) (left : Int) (t : Tm) : -1 ≤ small nmB d left t ∧ (small nmB d left t ≤ left ∨ small nmB d left t = -1) := by
  rw [small_spec]
  have := size_pos t
  split
  · rename_i h; exact ⟨by omega, .inl (by omega)⟩
  · exact ⟨by omega, .inr rfl⟩
set_option maxRecDepth 100000 in
set_option maxHeartbeats 2000000 in
theorem Size_x (t : Tm) (v : Value) (w : World) (htab : AscT w) (hR : TmR (fun k => k < w.heap.size) w t v) (hsz : (t.size : Int) ≤ 1000000000000) : Calls Tryz.prog 75 #[v] w fun e w' => e = .returned (.int .i64 (szF t : Nat)) ∧ Ext w w' := by
  have HR := Lib.hid hR
  obtain ⟨a, cap, rfl, hT⟩ := hR
  dsimp only [tV]
  have HZ := Lib.hid ((Upd.refl (fun _ => False) w).alloc (.cells #[.string t.name, .string t.sort, .slice a t.kids.length cap] 25))
  have hb := alloc0 w (.cells #[.string t.name, .string t.sort, .slice a t.kids.length cap] 25)
  have HF := Lib.hid (fun W (hW : Ext w W) => size_x t _ W (asc_ext htab hW) ((HR.out.ext hW).weaken (fun k hk => Nat.lt_of_lt_of_le hk hW.size)) hsz)
  dsimp only [tV] at HF
  have c0 := cellRow hb 0 (.string t.name) rfl
  have c1 := cellRow hb 1 (.string t.sort) rfl
  have c2 := cellRow hb 2 (.slice a t.kids.length cap) rfl
  clear hT hb
  generalize szF t = X at *
  generalize dpF t = Y at *
  go_enter Tryz.func75, Tryz.ntmps75
  go_wp2_with fail
  refine (HF.out _ HZ.out).mono ?_
  rintro e w4 ⟨rfl, hw4⟩
  have H4 := Lib.hid (HZ.out.ext hw4)
  clear hw4 c0 c1 c2
  go_wp2_with fail
  go_ret
  exact ⟨rfl, H4.out⟩
set_option maxRecDepth 100000 in
set_option maxHeartbeats 2000000 in
theorem small_x : ∀ (t : Tm) (d : Nat) (left : Int) (v : Value) (S : Nat → Prop) (w : World), TmR S w t v → d ≤ 1000 → -1 ≤ left → left ≤ 1000 →
    Calls Tryz.prog 57 #[v, .int .i64 (d : Int), .int .i64 left] w fun e w' => e = .returned (.int .i64 (small nmB d left t)) ∧ Ext w w' := by
  refine Tm.ind (fun nm so L ih => ?_)
  intro d left v S w hR hd hl0 hl1
  obtain ⟨a, cap, rfl, hT⟩ := hR
  dsimp only [tV, Tm.name, Tm.sort, Tm.kids] at hT ⊢
  have HTL := Lib.hid hT
  have HIH := Lib.hid ih
  clear ih hT
  have HZ := Lib.hid ((Upd.refl (fun _ => False) w).alloc (.cells #[.string nm, .string so, .slice a L.length cap] 25))
  have HB := Lib.hid (alloc0 w (.cells #[.string nm, .string so, .slice a L.length cap] 25))
  have c0 := cellRow HB.out 0 (.string nm) rfl
  have c1 := cellRow HB.out 1 (.string so) rfl
  have c2 := cellRow HB.out 2 (.slice a L.length cap) rfl
  have hok : ∀ b, okN nmB (.mk nm so L, d) = b → okN nmB (.mk nm so L, d) = b := fun _ h => h
  have hokd : okN nmB (.mk nm so L, d) = (decide (d ≤ 60) && (nmB nm && (decide (L.length ≤ 6) && (decide (so = nul) || (nmB so && decide (L.length = 0)))))) := rfl
  have HOK := Lib.hid hokd
  clear hok hokd
  by_cases h1 : left ≤ 0
  · have t1 : decide (left ≤ 0) = true := decide_eq_true h1
    have hr : small nmB d left (.mk nm so L) = -1 := by
      rw [small_eq, if_pos (.inl h1)]
    rw [hr]
    go_enter Tryz.func57, Tryz.ntmps57
    go_wp2_with fail
    go_ret
    exact ⟨rfl, HZ.out⟩
  have t1 : decide (left ≤ 0) = false := decide_eq_false h1
  by_cases h2 : 60 < d
  · have t2 : decide ((60 : Int) < (d : Int)) = true := decide_eq_true (by omega)
    have t2' : decide (60 < d) = true := decide_eq_true h2
    have hr : small nmB d left (.mk nm so L) = -1 := by
      rw [small_eq, if_pos (.inr (by rw [HOK.out, decide_eq_false (show ¬ d ≤ 60 by omega), Bool.false_and]))]
    rw [hr]
    go_enter Tryz.func57, Tryz.ntmps57
    go_wp2_with fail
    go_ret
    exact ⟨rfl, HZ.out⟩
  have t2 : decide ((60 : Int) < (d : Int)) = false := decide_eq_false (by omega)
  have t2' : decide (60 < d) = false := decide_eq_false h2
  have k2 : decide (d ≤ 60) = true := decide_eq_true (by omega)
  by_cases h3 : 6 < L.length
  · have t3 : decide ((6 : Int) < (L.length : Int)) = true := decide_eq_true (by omega)
    have t3' : decide (6 < L.length) = true := decide_eq_true h3
    have hr : small nmB d left (.mk nm so L) = -1 := by
      rw [small_eq, if_pos (.inr (by rw [HOK.out, decide_eq_false (show ¬ L.length ≤ 6 by omega)]; simp))]
    rw [hr]
    go_enter Tryz.func57, Tryz.ntmps57
    go_wp2_with fail
    go_ret
    exact ⟨rfl, HZ.out⟩
  have t3 : decide ((6 : Int) < (L.length : Int)) = false := decide_eq_false (by omega)
  have t3' : decide (6 < L.length) = false := decide_eq_false h3
  have k3 : decide (L.length ≤ 6) = true := decide_eq_true (by omega)
  have HN1 := Lib.hid (fun W => rIsName_x nm W)
  cases hnm : nmB nm
  · rw [hnm] at HN1
    have hr : small nmB d left (.mk nm so L) = -1 := by
      rw [small_eq, if_pos (.inr (by rw [HOK.out, hnm]; simp))]
    rw [hr]
    go_enter Tryz.func57, Tryz.ntmps57
    go_wp2_with fail
    refine (HN1.out _).mono ?_
    rintro e w4 ⟨rfl, hw4⟩
    have H4 := Lib.hid (HZ.out.ext hw4)
    have hb4 := HB.out
    have HB4 := Lib.hid (hw4.heap hb4 (fun h => h))
    clear hw4 hb4 c0 c1 c2
    have c0 := cellRow HB4.out 0 (.string nm) rfl
    have c1 := cellRow HB4.out 1 (.string so) rfl
    have c2 := cellRow HB4.out 2 (.slice a L.length cap) rfl
    go_wp2_with fail
    go_ret
    exact ⟨rfl, H4.out⟩
  rw [hnm] at HN1
  by_cases hs0 : so.size = 0
  · have hse := empty_is _ hs0
    have hrv : small nmB d left (.mk nm so L) = smalls nmB (d + 1) (left - 1) L := by
      rw [small_eq]
      refine if_neg ?_
      rintro (h | h)
      · omega
      · rw [HOK.out, k2, hnm, k3, decide_eq_true (show so = nul from hse)] at h; cases h
    subst hse
    go_enter Tryz.func57, Tryz.ntmps57
    go_wp2_with fail
    refine (HN1.out _).mono ?_
    rintro e w4 ⟨rfl, hw4⟩
    have H4 := Lib.hid (HZ.out.ext hw4)
    have hb4 := HB.out
    have HB4 := Lib.hid (hw4.heap hb4 (fun h => h))
    clear hw4 hb4 c0 c1 c2
    have c0 := cellRow HB4.out 0 (.string nm) rfl
    have c1 := cellRow HB4.out 1 (.string ⟨#[]⟩) rfl
    have c2 := cellRow HB4.out 2 (.slice a L.length cap) rfl
    go_wp2_with fail
    clear c0 c1 c2
    go_loopg [2, 7] L.length (fun gk lv iv wr => ∃ (k : Nat) (cur : Int), lv = .int .i64 cur ∧ iv = .int .i64 (k : Int) ∧ gk = L.length - k ∧ k ≤ L.length ∧ Hid (smalls nmB (d + 1) (left - 1) (L.take k) = cur) ∧ 0 ≤ cur ∧ cur ≤ 1000 ∧ Hid (Ext w wr) ∧ Hid (wr.heap[w.heap.size]? = some (.cells #[.string nm, .string ⟨#[]⟩, .slice a L.length cap] 25 (0, 0))))
    case atStart => exact ⟨0, left - 1, by first | rfl | go_num, rfl, rfl, Nat.zero_le _, Lib.hid rfl, by omega, by omega, H4, HB4⟩
    case round =>
      obtain ⟨k, cur, rfl, rfl, rfl, hk, HC, hc0, hc1, HE, HBr⟩ := hrel
      have c2 := cellRow HBr.out 2 (.slice a L.length cap) rfl
      by_cases hlt : k < L.length
      · obtain ⟨g, off, rfl, _, hat⟩ := (HTL.out.ext HE.out).at_ (by omega)
        obtain ⟨a', cap', q0, q1, q2, hkid⟩ := hat k hlt
        have z0 : (0 : Int) ≤ (k : Int) := by omega
        have z1 : (k : Int) < (L.length : Int) := by omega
        have z2 : decide ((k : Int) < (L.length : Int)) = true := decide_eq_true z1
        have z2' : decide (k < L.length) = true := decide_eq_true hlt
        have hmem : tg L k ∈ L := by unfold tg; rw [List.getD_eq_getElem?_getD, List.getElem?_eq_getElem hlt]; exact List.getElem_mem hlt
        have htk : L.take (k + 1) = L.take k ++ [tg L k] := by
          rw [List.take_add_one]
          have : L[k]?.toList = [tg L k] := by unfold tg; rw [List.getD_eq_getElem?_getD, List.getElem?_eq_getElem hlt]; rfl
          rw [this]
        have hsp : L = L.take (k + 1) ++ L.drop (k + 1) := (List.take_append_drop _ _).symm
        have HIX := Lib.hid (HIH.out (tg L k) hmem (d + 1) cur _ S wr ⟨a', cap', rfl, hkid⟩ (by omega) (by omega) hc1)
        have hsn := smalls_snoc (d + 1) (tg L k) (L.take k) (left - 1) (by omega)
        rw [HC.out, if_neg (show ¬ cur < 0 by omega), ← htk] at hsn
        have hbd := small_bd (d + 1) cur (tg L k)
        have HNG := Lib.hid (smalls_neg (d + 1) (L.drop (k + 1)) (L.take (k + 1)) (left - 1) (by omega))
        rw [← hsp] at HNG
        generalize tg L k = x at *
        rw [← Nat.add_assoc] at q1 q2
        dsimp only [tV] at HIX
        rw [show (((d + 1 : Nat)) : Int) = (d : Int) + 1 by omega] at HIX
        have hw1 : IntKind.i64.wrap ((d : Int) + 1) = (d : Int) + 1 := IntWalk.i64_in _ (by omega)
        obtain ⟨r, hr0⟩ : ∃ r, small nmB (d + 1) cur x = r := ⟨_, rfl⟩
        rw [hr0] at HIX hsn hbd
        have HSN := Lib.hid hsn
        clear hsn hr0 htk hsp hmem hkid hat
        go_wp2_with fail
        refine HIX.out.mono ?_
        rintro e w8 ⟨rfl, hw8⟩
        have HE8 := Lib.hid (HE.out.ext hw8)
        have HB8 := Lib.hid (hw8.heap HBr.out (fun h => h))
        clear hw8 c2 q0 q1 q2 HIX
        by_cases hrn : r < 0
        · have hr1 : decide (r < 0) = true := decide_eq_true hrn
          have HRV : Hid (small nmB d left (.mk nm ⟨#[]⟩ L) = r) := Lib.hid (by rw [hrv, HNG.out (by rw [HSN.out]; exact hrn), HSN.out])
          go_wp2_with fail
          go_ret
          rw [HRV.out]
          exact ⟨rfl, HE8.out⟩
        · have hr1 : decide (r < 0) = false := decide_eq_false hrn
          go_wp2_with fail
          go_roundg (L.length - (k + 1))
          case measure => omega
          case rel => exact ⟨k + 1, r, rfl, by go_num, rfl, by omega, HSN, by omega, by omega, HE8, HB8⟩
      · obtain rfl : k = L.length := by omega
        have HRV : Hid (small nmB d left (.mk nm ⟨#[]⟩ L) = cur) := Lib.hid (by rw [hrv, ← HC.out, List.take_length])
        have z2 : decide ((L.length : Int) < (L.length : Int)) = false := decide_eq_false (by omega)
        go_wp2_with fail
        go_ret
        rw [HRV.out]
        exact ⟨rfl, HE.out⟩
  have k5 : decide (so = nul) = false := decide_eq_false (fun e => hs0 (by rw [e]; rfl))
  obtain ⟨e1, e2, e3, e4⟩ := nonempty_t so (Nat.pos_of_ne_zero hs0)
  by_cases h7 : 0 < L.length
  · have t7 : decide ((0 : Int) < (L.length : Int)) = true := decide_eq_true (by omega)
    have t7' : decide (0 < L.length) = true := decide_eq_true h7
    have hr : small nmB d left (.mk nm so L) = -1 := by
      rw [small_eq, if_pos (.inr (by rw [HOK.out, k5, decide_eq_false (show ¬ L.length = 0 by omega)]; simp))]
    rw [hr]
    clear hr HOK HIH
    generalize L.length = KL at *
    go_enter Tryz.func57, Tryz.ntmps57
    go_wp2_with fail
    refine (HN1.out _).mono ?_
    rintro e w4 ⟨rfl, hw4⟩
    have H4 := Lib.hid (HZ.out.ext hw4)
    have hb4 := HB.out
    have HB4 := Lib.hid (hw4.heap hb4 (fun h => h))
    clear hw4 hb4 c0 c1 c2
    have c0 := cellRow HB4.out 0 (.string nm) rfl
    have c1 := cellRow HB4.out 1 (.string so) rfl
    have c2 := cellRow HB4.out 2 (.slice a KL cap) rfl
    go_wp2_with fail
    go_ret
    exact ⟨rfl, H4.out⟩
  have hLn : L = [] := List.eq_nil_of_length_eq_zero (by omega)
  subst hLn
  have HN2 := Lib.hid (fun W => rIsName_x so W)
  cases hns : nmB so
  · rw [hns] at HN2
    have hr : small nmB d left (.mk nm so []) = -1 := by
      rw [small_eq, if_pos (.inr (by rw [HOK.out, k5, hns]; simp))]
    rw [hr]
    go_enter Tryz.func57, Tryz.ntmps57
    go_wp2_with fail
    refine (HN1.out _).mono ?_
    rintro e w4 ⟨rfl, hw4⟩
    have H4 := Lib.hid (HZ.out.ext hw4)
    have hb4 := HB.out
    have HB4 := Lib.hid (hw4.heap hb4 (fun h => h))
    clear hw4 hb4 c0 c1 c2
    have c0 := cellRow HB4.out 0 (.string nm) rfl
    have c1 := cellRow HB4.out 1 (.string so) rfl
    have c2 := cellRow HB4.out 2 (.slice a ([] : List Tm).length cap) rfl
    go_wp2_with fail
    refine (HN2.out _).mono ?_
    rintro e w5 ⟨rfl, hw5⟩
    have H5 := Lib.hid (H4.out.ext hw5)
    have hb5 := HB4.out
    have HB5 := Lib.hid (hw5.heap hb5 (fun h => h))
    clear hw5 hb5 c0 c1 c2
    have c0 := cellRow HB5.out 0 (.string nm) rfl
    have c1 := cellRow HB5.out 1 (.string so) rfl
    have c2 := cellRow HB5.out 2 (.slice a ([] : List Tm).length cap) rfl
    go_wp2_with fail
    go_ret
    exact ⟨rfl, H5.out⟩
  rw [hns] at HN2
  have hrv : small nmB d left (.mk nm so []) = smalls nmB (d + 1) (left - 1) [] := by
    rw [small_eq]
    refine if_neg ?_
    rintro (h | h)
    · omega
    · rw [HOK.out, k2, hnm, k3, k5, hns] at h; cases h
  go_enter Tryz.func57, Tryz.ntmps57
  go_wp2_with fail
  refine (HN1.out _).mono ?_
  rintro e w4 ⟨rfl, hw4⟩
  have H4 := Lib.hid (HZ.out.ext hw4)
  have hb4 := HB.out
  have HB4 := Lib.hid (hw4.heap hb4 (fun h => h))
  clear hw4 hb4 c0 c1 c2
  have c0 := cellRow HB4.out 0 (.string nm) rfl
  have c1 := cellRow HB4.out 1 (.string so) rfl
  have c2 := cellRow HB4.out 2 (.slice a ([] : List Tm).length cap) rfl
  go_wp2_with fail
  refine (HN2.out _).mono ?_
  rintro e w5 ⟨rfl, hw5⟩
  have H5 := Lib.hid (H4.out.ext hw5)
  have hb5 := HB4.out
  have HB5 := Lib.hid (hw5.heap hb5 (fun h => h))
  clear hw5 hb5 c0 c1 c2
  have c0 := cellRow HB5.out 0 (.string nm) rfl
  have c1 := cellRow HB5.out 1 (.string so) rfl
  have c2 := cellRow HB5.out 2 (.slice a ([] : List Tm).length cap) rfl
  go_wp2_with fail
  clear c0 c1 c2
  go_loopg [2, 7] 1 (fun gk lv iv wr => lv = .int .i64 (left - 1) ∧ iv = .int .i64 0 ∧ gk = 1 ∧ Hid (Ext w wr) ∧ Hid (wr.heap[w.heap.size]? = some (.cells #[.string nm, .string so, .slice a ([] : List Tm).length cap] 25 (0, 0))))
  case atStart => exact ⟨by first | rfl | go_num, rfl, rfl, H5, HB5⟩
  case round =>
    obtain ⟨rfl, rfl, rfl, HE, HBr⟩ := hrel
    have c2 := cellRow HBr.out 2 (.slice a ([] : List Tm).length cap) rfl
    go_wp2_with fail
    go_ret
    rw [hrv]
    exact ⟨rfl, HE.out⟩

end Go.Proofs.YtiimccogojkldaaGreatDoor

/- Compare of the reference. -/
namespace Go.Proofs.YtiimccogojkldaaGreatDoor
open Go.RowKit Go.Hw Go
set_option linter.unusedVariables false
set_option linter.unusedSimpArgs false

open Tm
theorem bless (x y : ByteArray) : Op.bytesLess x.toList y.toList = blt x y := by
  unfold blt
  rw [bytesLess_eq, Lib.toList_data, Lib.toList_data]
set_option maxRecDepth 100000 in
set_option maxHeartbeats 2000000 in
theorem order_x (x y : ByteArray) (w : World) : Calls Tryz.prog 92 #[.string x, .string y] w fun e w' => e = .returned (.int .i64 (bcmp x y)) ∧ Ext w w' := by
  have hrf := Lib.hid (Upd.refl (fun _ => False) w)
  have t1 := bless x y
  have t2 := bless y x
  have hb : bcmp x y = if blt x y = true then -1 else if blt y x = true then 1 else 0 := rfl
  generalize bcmp x y = Z at *
  cases h1 : blt x y
  · rw [h1] at t1 hb
    cases h2 : blt y x
    · rw [h2] at t2 hb
      have hz : Z = 0 := hb
      subst hz
      have hxy : x = y := by
        by_cases e : x = y
        · exact e
        · rcases blt_tri x y e with h3 | h3
          · rw [h3] at h1; cases h1
          · rw [h3] at h2; cases h2
      have t3 : (x.toList == y.toList) = true := by rw [hxy]; simp
      clear hb h1 h2 hxy
      go_enter Tryz.func92, Tryz.ntmps92
      go_wp2_with fail
      go_ret
      exact ⟨rfl, hrf.out⟩
    · rw [h2] at t2 hb
      have hz : Z = 1 := hb
      subst hz
      have t3 : (x.toList == y.toList) = false := by
        rw [beq_eq_false_iff_ne]
        intro e
        have hxy : x = y := ba_list (by rw [Lib.toList_data, Lib.toList_data] at e; exact e)
        rw [hxy, blt_irrefl] at h2
        cases h2
      clear hb h1 h2
      go_enter Tryz.func92, Tryz.ntmps92
      go_wp2_with fail
      go_ret
      exact ⟨rfl, hrf.out⟩
  · rw [h1] at t1 hb
    have hz : Z = -1 := hb
    subst hz
    clear hb h1
    go_enter Tryz.func92, Tryz.ntmps92
    go_wp2_with fail
    go_ret
    exact ⟨rfl, hrf.out⟩
set_option maxRecDepth 100000 in
set_option maxHeartbeats 2000000 in
theorem compare_x : ∀ (t u : Tm) (v v' : Value) (S T : Nat → Prop) (w : World), TmR S w t v → TmR T w u v' → t.size ≤ 1000000 →
    Calls Tryz.prog 67 #[v, v'] w fun e w' => e = .returned (.int .i64 (cmpT t u)) ∧ Ext w w' := by
  refine Tm.ind (fun n s L ih => ?_)
  intro u v v' S T w hR hR' hsz
  obtain ⟨m, r, M⟩ := u
  obtain ⟨aa, ca, rfl, hT⟩ := hR
  obtain ⟨ab, cb, rfl, hT'⟩ := hR'
  dsimp only [tV, Tm.name, Tm.sort, Tm.kids] at hT hT' ⊢
  have HTL := Lib.hid (And.intro hT hT')
  have HIH := Lib.hid ih
  clear ih hT hT'
  have HZ := Lib.hid (((Upd.refl (fun _ => False) w).alloc (.cells #[.string n, .string s, .slice aa L.length ca] 25)).alloc (.cells #[.string m, .string r, .slice ab M.length cb] 25))
  have HA := Lib.hid (allocOld (alloc0 w (.cells #[.string n, .string s, .slice aa L.length ca] 25)) (.cells #[.string m, .string r, .slice ab M.length cb] 25))
  have HB := Lib.hid (alloc_at (w.alloc (.cells #[.string n, .string s, .slice aa L.length ca] 25)) (.cells #[.string m, .string r, .slice ab M.length cb] 25) (n := w.heap.size + 1) (by simp))
  have HO1 := Lib.hid (fun W => order_x n m W)
  have HO2 := Lib.hid (fun W => order_x s r W)
  have ha0 := (Upd.refl (fun _ => False) _).heap HA.out (fun h => h)
  have hb0 := (Upd.refl (fun _ => False) _).heap HB.out (fun h => h)
  have a0 := cellRow ha0 0 (.string n) rfl
  have a1 := cellRow ha0 1 (.string s) rfl
  have a2 := cellRow ha0 2 (.slice aa L.length ca) rfl
  have b0 := cellRow hb0 0 (.string m) rfl
  have b1 := cellRow hb0 1 (.string r) rfl
  have b2 := cellRow hb0 2 (.slice ab M.length cb) rfl
  clear ha0 hb0
  have HEQ := Lib.hid (cmpT_eq n s L m r M)
  by_cases hs : s.size = 0
  · have hse := empty_is _ hs
    by_cases hr : r.size = 0
    · have hre := empty_is _ hr
      subst hse hre
      rw [if_neg (by simp)] at HEQ
      by_cases h1 : bcmp n m = 0
      rotate_left
      · have t1 : (bcmp n m != 0) = true := by simpa using h1
        have t1' : decide (bcmp n m = 0) = false := decide_eq_false h1
        have hv : cmpT (.mk n ⟨#[]⟩ L) (.mk m ⟨#[]⟩ M) = bcmp n m := by rw [HEQ.out, if_pos h1]
        rw [hv]
        clear hv h1 HEQ
        generalize bcmp n m = Z at *
        go_enter Tryz.func67, Tryz.ntmps67
        go_wp2_with fail
        refine (HO1.out _).mono ?_
        rintro e w4 ⟨rfl, hw4⟩
        have H4 := Lib.hid (hw4)
        clear hw4
        clear a0 a1 a2 b0 b1 b2
        have ha4 := H4.out.heap HA.out (fun h => h)
        have hb4 := H4.out.heap HB.out (fun h => h)
        have a0 := cellRow ha4 0 (.string n) rfl
        have a1 := cellRow ha4 1 (.string ⟨#[]⟩) rfl
        have a2 := cellRow ha4 2 (.slice aa L.length ca) rfl
        have b0 := cellRow hb4 0 (.string m) rfl
        have b1 := cellRow hb4 1 (.string ⟨#[]⟩) rfl
        have b2 := cellRow hb4 2 (.slice ab M.length cb) rfl
        clear ha4 hb4
        go_wp2_with fail
        go_ret
        exact ⟨rfl, HZ.out.ext H4.out⟩
      rw [if_neg (by simp [h1])] at HEQ
      rw [h1] at HO1
      clear h1
      by_cases h2 : bcmp ⟨#[]⟩ ⟨#[]⟩ = 0
      rotate_left
      · have t1 : (bcmp ⟨#[]⟩ ⟨#[]⟩ != 0) = true := by simpa using h2
        have t1' : decide (bcmp ⟨#[]⟩ ⟨#[]⟩ = 0) = false := decide_eq_false h2
        have hv : cmpT (.mk n ⟨#[]⟩ L) (.mk m ⟨#[]⟩ M) = bcmp ⟨#[]⟩ ⟨#[]⟩ := by rw [HEQ.out, if_pos h2]
        rw [hv]
        clear hv h2 HEQ
        generalize bcmp ⟨#[]⟩ ⟨#[]⟩ = Z at *
        go_enter Tryz.func67, Tryz.ntmps67
        go_wp2_with fail
        refine (HO1.out _).mono ?_
        rintro e w4 ⟨rfl, hw4⟩
        have H4 := Lib.hid (hw4)
        clear hw4
        clear a0 a1 a2 b0 b1 b2
        have ha4 := H4.out.heap HA.out (fun h => h)
        have hb4 := H4.out.heap HB.out (fun h => h)
        have a0 := cellRow ha4 0 (.string n) rfl
        have a1 := cellRow ha4 1 (.string ⟨#[]⟩) rfl
        have a2 := cellRow ha4 2 (.slice aa L.length ca) rfl
        have b0 := cellRow hb4 0 (.string m) rfl
        have b1 := cellRow hb4 1 (.string ⟨#[]⟩) rfl
        have b2 := cellRow hb4 2 (.slice ab M.length cb) rfl
        clear ha4 hb4
        go_wp2_with fail
        refine (HO2.out _).mono ?_
        rintro e w5 ⟨rfl, hw5⟩
        have H5 := Lib.hid (H4.out.ext hw5)
        clear hw5
        clear a0 a1 a2 b0 b1 b2
        have ha5 := H5.out.heap HA.out (fun h => h)
        have hb5 := H5.out.heap HB.out (fun h => h)
        have a0 := cellRow ha5 0 (.string n) rfl
        have a1 := cellRow ha5 1 (.string ⟨#[]⟩) rfl
        have a2 := cellRow ha5 2 (.slice aa L.length ca) rfl
        have b0 := cellRow hb5 0 (.string m) rfl
        have b1 := cellRow hb5 1 (.string ⟨#[]⟩) rfl
        have b2 := cellRow hb5 2 (.slice ab M.length cb) rfl
        clear ha5 hb5
        go_wp2_with fail
        go_ret
        exact ⟨rfl, HZ.out.ext H5.out⟩
      rw [if_neg (by simp [h2])] at HEQ
      rw [h2] at HO2
      clear h2
      by_cases h3 : L.length = M.length
      rotate_left
      · have u1 : ((L.length : Int) != (M.length : Int)) = true := by simp; omega
        have u1' : decide ((L.length : Int) = (M.length : Int)) = false := decide_eq_false (by omega)
        have u1'' : decide (L.length = M.length) = false := decide_eq_false h3
        rw [if_pos h3] at HEQ
        by_cases h4 : L.length < M.length
        · have u2 : decide ((L.length : Int) < (M.length : Int)) = true := decide_eq_true (by omega)
          have u2' : decide (L.length < M.length) = true := decide_eq_true h4
          have hv : cmpT (.mk n ⟨#[]⟩ L) (.mk m ⟨#[]⟩ M) = -1 := by rw [HEQ.out, if_pos h4]
          rw [hv]
          clear hv HEQ
          go_enter Tryz.func67, Tryz.ntmps67
          go_wp2_with fail
          refine (HO1.out _).mono ?_
          rintro e w4 ⟨rfl, hw4⟩
          have H4 := Lib.hid (hw4)
          clear hw4
          clear a0 a1 a2 b0 b1 b2
          have ha4 := H4.out.heap HA.out (fun h => h)
          have hb4 := H4.out.heap HB.out (fun h => h)
          have a0 := cellRow ha4 0 (.string n) rfl
          have a1 := cellRow ha4 1 (.string ⟨#[]⟩) rfl
          have a2 := cellRow ha4 2 (.slice aa L.length ca) rfl
          have b0 := cellRow hb4 0 (.string m) rfl
          have b1 := cellRow hb4 1 (.string ⟨#[]⟩) rfl
          have b2 := cellRow hb4 2 (.slice ab M.length cb) rfl
          clear ha4 hb4
          go_wp2_with fail
          refine (HO2.out _).mono ?_
          rintro e w5 ⟨rfl, hw5⟩
          have H5 := Lib.hid (H4.out.ext hw5)
          clear hw5
          clear a0 a1 a2 b0 b1 b2
          have ha5 := H5.out.heap HA.out (fun h => h)
          have hb5 := H5.out.heap HB.out (fun h => h)
          have a0 := cellRow ha5 0 (.string n) rfl
          have a1 := cellRow ha5 1 (.string ⟨#[]⟩) rfl
          have a2 := cellRow ha5 2 (.slice aa L.length ca) rfl
          have b0 := cellRow hb5 0 (.string m) rfl
          have b1 := cellRow hb5 1 (.string ⟨#[]⟩) rfl
          have b2 := cellRow hb5 2 (.slice ab M.length cb) rfl
          clear ha5 hb5
          go_wp2_with fail
          go_ret
          exact ⟨rfl, HZ.out.ext H5.out⟩
        · have u2 : decide ((L.length : Int) < (M.length : Int)) = false := decide_eq_false (by omega)
          have u2' : decide (L.length < M.length) = false := decide_eq_false h4
          have hv : cmpT (.mk n ⟨#[]⟩ L) (.mk m ⟨#[]⟩ M) = 1 := by rw [HEQ.out, if_neg h4]
          rw [hv]
          clear hv HEQ
          go_enter Tryz.func67, Tryz.ntmps67
          go_wp2_with fail
          refine (HO1.out _).mono ?_
          rintro e w4 ⟨rfl, hw4⟩
          have H4 := Lib.hid (hw4)
          clear hw4
          clear a0 a1 a2 b0 b1 b2
          have ha4 := H4.out.heap HA.out (fun h => h)
          have hb4 := H4.out.heap HB.out (fun h => h)
          have a0 := cellRow ha4 0 (.string n) rfl
          have a1 := cellRow ha4 1 (.string ⟨#[]⟩) rfl
          have a2 := cellRow ha4 2 (.slice aa L.length ca) rfl
          have b0 := cellRow hb4 0 (.string m) rfl
          have b1 := cellRow hb4 1 (.string ⟨#[]⟩) rfl
          have b2 := cellRow hb4 2 (.slice ab M.length cb) rfl
          clear ha4 hb4
          go_wp2_with fail
          refine (HO2.out _).mono ?_
          rintro e w5 ⟨rfl, hw5⟩
          have H5 := Lib.hid (H4.out.ext hw5)
          clear hw5
          clear a0 a1 a2 b0 b1 b2
          have ha5 := H5.out.heap HA.out (fun h => h)
          have hb5 := H5.out.heap HB.out (fun h => h)
          have a0 := cellRow ha5 0 (.string n) rfl
          have a1 := cellRow ha5 1 (.string ⟨#[]⟩) rfl
          have a2 := cellRow ha5 2 (.slice aa L.length ca) rfl
          have b0 := cellRow hb5 0 (.string m) rfl
          have b1 := cellRow hb5 1 (.string ⟨#[]⟩) rfl
          have b2 := cellRow hb5 2 (.slice ab M.length cb) rfl
          clear ha5 hb5
          go_wp2_with fail
          go_ret
          exact ⟨rfl, HZ.out.ext H5.out⟩
      rw [if_neg (by simp [h3])] at HEQ
      have u1 : ((L.length : Int) != (M.length : Int)) = false := by simp; omega
      have u1' : decide ((L.length : Int) = (M.length : Int)) = true := decide_eq_true (by omega)
      have u1'' : decide (L.length = M.length) = true := decide_eq_true h3
      have H3 := Lib.hid h3
      clear h3
      go_enter Tryz.func67, Tryz.ntmps67
      go_wp2_with fail
      refine (HO1.out _).mono ?_
      rintro e w4 ⟨rfl, hw4⟩
      have H4 := Lib.hid (hw4)
      clear hw4
      clear a0 a1 a2 b0 b1 b2
      have ha4 := H4.out.heap HA.out (fun h => h)
      have hb4 := H4.out.heap HB.out (fun h => h)
      have a0 := cellRow ha4 0 (.string n) rfl
      have a1 := cellRow ha4 1 (.string ⟨#[]⟩) rfl
      have a2 := cellRow ha4 2 (.slice aa L.length ca) rfl
      have b0 := cellRow hb4 0 (.string m) rfl
      have b1 := cellRow hb4 1 (.string ⟨#[]⟩) rfl
      have b2 := cellRow hb4 2 (.slice ab M.length cb) rfl
      clear ha4 hb4
      go_wp2_with fail
      refine (HO2.out _).mono ?_
      rintro e w5 ⟨rfl, hw5⟩
      have H5 := Lib.hid (H4.out.ext hw5)
      clear hw5
      clear a0 a1 a2 b0 b1 b2
      have ha5 := H5.out.heap HA.out (fun h => h)
      have hb5 := H5.out.heap HB.out (fun h => h)
      have a0 := cellRow ha5 0 (.string n) rfl
      have a1 := cellRow ha5 1 (.string ⟨#[]⟩) rfl
      have a2 := cellRow ha5 2 (.slice aa L.length ca) rfl
      have b0 := cellRow hb5 0 (.string m) rfl
      have b1 := cellRow hb5 1 (.string ⟨#[]⟩) rfl
      have b2 := cellRow hb5 2 (.slice ab M.length cb) rfl
      clear ha5 hb5
      go_wp2_with fail
      clear a0 a1 a2 b0 b1 b2
      have hlL : L.length ≤ 1000000 := by have h1 := length_le_sizes L; have h2 := hsz; rw [size_eq] at h2; exact Nat.le_trans h1 (Nat.le_of_succ_le h2)
      go_loopg [7] L.length (fun gk iv wr => ∃ k : Nat, iv = .int .i64 (k : Int) ∧ gk = L.length - k ∧ k ≤ L.length ∧ Hid (∀ j, j < k → cmpT (tg L j) (tg M j) = 0) ∧ Hid (Ext ((w.alloc (.cells #[.string n, .string ⟨#[]⟩, .slice aa L.length ca] 25)).alloc (.cells #[.string m, .string ⟨#[]⟩, .slice ab M.length cb] 25)) wr))
      case atStart => exact ⟨0, rfl, rfl, Nat.zero_le _, Lib.hid (fun j h => absurd h (Nat.not_lt_zero _)), H5⟩
      case round =>
        obtain ⟨k, rfl, rfl, hk, HC, HE⟩ := hrel
        have HEw := Lib.hid (HZ.out.ext HE.out)
        have haw := HE.out.heap HA.out (fun h => h)
        have hbw := HE.out.heap HB.out (fun h => h)
        have a0 := cellRow haw 0 (.string n) rfl
        have a1 := cellRow haw 1 (.string ⟨#[]⟩) rfl
        have a2 := cellRow haw 2 (.slice aa L.length ca) rfl
        have b0 := cellRow hbw 0 (.string m) rfl
        have b1 := cellRow hbw 1 (.string ⟨#[]⟩) rfl
        have b2 := cellRow hbw 2 (.slice ab M.length cb) rfl
        clear haw hbw
        by_cases hlt : k < L.length
        · have hltM : k < M.length := by have := H3.out; omega
          obtain ⟨g, off, rfl, _, hat⟩ := (HTL.out.1.ext HEw.out).at_ (by omega)
          obtain ⟨g', off', rfl, _, hat'⟩ := (HTL.out.2.ext HEw.out).at_ (by omega)
          obtain ⟨ka, kc, q0, q1, q2, hkid⟩ := hat k hlt
          obtain ⟨ka', kc', p0, p1, p2, hkid'⟩ := hat' k hltM
          have z0 : (0 : Int) ≤ (k : Int) := by omega
          have z1 : (k : Int) < (L.length : Int) := by omega
          have z2 : decide ((k : Int) < (L.length : Int)) = true := decide_eq_true z1
          have z2' : decide (k < L.length) = true := decide_eq_true hlt
          have z3 : (k : Int) < (M.length : Int) := by omega
          have hmem : tg L k ∈ L := by unfold tg; rw [List.getD_eq_getElem?_getD, List.getElem?_eq_getElem hlt]; exact List.getElem_mem hlt
          have hszk : (tg L k).size ≤ 1000000 := by have h1 := size_mem hmem; have h2 := hsz; rw [size_eq] at h2; exact Nat.le_trans h1 (Nat.le_of_succ_le h2)
          have HIX := Lib.hid (fun W (hW : Ext wr W) => HIH.out (tg L k) hmem (tg M k) _ _ S T W ⟨ka, kc, rfl, hkid.ext hW⟩ ⟨ka', kc', rfl, hkid'.ext hW⟩ hszk)
          have HOF := Lib.hid (cmps_of L M k H3.out hlt HC.out)
          have HNX := Lib.hid (fun h : cmpT (tg L k) (tg M k) = 0 => fun j (hj : j < k + 1) => by
            rcases Nat.lt_succ_iff_lt_or_eq.1 hj with h5 | h5
            · exact HC.out j h5
            · rw [h5]; exact h)
          dsimp only [tV] at HIX
          obtain ⟨R, hR⟩ : ∃ R, cmpT (tg L k) (tg M k) = R := ⟨_, rfl⟩
          rw [hR] at HIX
          have HRR := Lib.hid hR
          clear hR hmem hat hat' hkid hkid'
          obtain ⟨x, hx⟩ : ∃ x, tg L k = x := ⟨_, rfl⟩
          obtain ⟨y, hy⟩ : ∃ y, tg M k = y := ⟨_, rfl⟩
          rw [hx] at q0 q1 q2 HIX
          rw [hy] at p0 p1 p2 HIX
          clear hx hy hszk hltM
          rw [← Nat.add_assoc] at q1 q2 p1 p2
          have xq0 := fun x : XW wr => x.ext.cell q0 (fun h => h)
          have xq1 := fun x : XW wr => x.ext.cell q1 (fun h => h)
          have xq2 := fun x : XW wr => x.ext.cell q2 (fun h => h)
          have xp0 := fun x : XW wr => x.ext.cell p0 (fun h => h)
          have xp1 := fun x : XW wr => x.ext.cell p1 (fun h => h)
          have xp2 := fun x : XW wr => x.ext.cell p2 (fun h => h)
          have xa2 := fun x : XW wr => x.ext.cell a2 (fun h => h)
          have xb2 := fun x : XW wr => x.ext.cell b2 (fun h => h)
          have hrfs := Upd.refl (fun _ => False) wr
          clear q0 q1 q2 p0 p1 p2 a0 a1 b0 b1 b2
          go_wp2_with fail
          clear a2
          refine wp_region_ext wr (by assumption) (by kernel_rfl) (by kernel_rfl) ?_
          repeat (first | go_big_quiet_skip | (go_big_quiet_want; go_big_quiet_op; first | go_big_quiet_on | (apply Exists.intro; refine ⟨fun x => ?_, ?_⟩; (go_at_call 67; exact XW.call (HIX.out x.val x.ext)); go_big_quiet_on)))
          refine wpQuiet_nil ?_
          rintro w8 ⟨⟨_, hyw8⟩, rfl⟩
          try dsimp only
          have HE8 := Lib.hid (HE.out.ext hyw8)
          clear xq0 xq1 xq2 xp0 xp1 xp2 xa2 xb2 hrfs hyw8 HIX
          by_cases hz : R = 0
          · have hz1 : (R != 0) = false := by simp [hz]
            have HN := Lib.hid (HNX.out (HRR.out.trans hz))
            have hzz := Lib.hid hz
            clear hz
            go_wp2_with fail
            go_roundg (L.length - (k + 1))
            case measure => omega
            case rel => exact ⟨k + 1, by go_num, rfl, by omega, HN, HE8⟩
          · have hz1 : (R != 0) = true := by simpa using hz
            have HV : Hid (cmpT (.mk n ⟨#[]⟩ L) (.mk m ⟨#[]⟩ M) = R) := Lib.hid (by rw [HEQ.out, HOF.out (by show cmpT (tg L k) (tg M k) ≠ 0; rw [HRR.out]; exact hz)]; exact HRR.out)
            have hzz := Lib.hid hz
            clear hz
            go_wp2_with fail
            go_ret
            rw [HV.out]
            exact ⟨rfl, HZ.out.ext HE8.out⟩
        · obtain rfl : k = L.length := by omega
          have HV : Hid (cmpT (.mk n ⟨#[]⟩ L) (.mk m ⟨#[]⟩ M) = 0) := Lib.hid (by rw [HEQ.out]; exact cmps_all L M H3.out HC.out)
          go_wp2_with fail
          go_ret
          rw [HV.out]
          exact ⟨rfl, HEw.out⟩
    · have hrn : r ≠ nul := fun e => hr (by rw [e]; rfl)
      have hsn : ¬ s ≠ nul := fun h => h hse
      have hdd : decide (s ≠ nul) ≠ decide (r ≠ nul) := by rw [decide_eq_false hsn, decide_eq_true hrn]; decide
      have hv : cmpT (.mk n s L) (.mk m r M) = 1 := by rw [HEQ.out, if_pos hdd, if_neg hsn]
      clear hsn hdd
      obtain ⟨e1, e2, e3, e4⟩ := nonempty_t r (Nat.pos_of_ne_zero hr)
      rw [hv]
      subst hse
      clear hv HEQ
      go_enter Tryz.func67, Tryz.ntmps67
      go_wp2_with fail
      go_ret
      exact ⟨rfl, HZ.out⟩
  · have hsn : s ≠ nul := fun e => hs (by rw [e]; rfl)
    obtain ⟨e1, e2, e3, e4⟩ := nonempty_t s (Nat.pos_of_ne_zero hs)
    by_cases hr : r.size = 0
    · have hre := empty_is _ hr
      have hrn : ¬ r ≠ nul := fun h => h hre
      have hdd : decide (s ≠ nul) ≠ decide (r ≠ nul) := by rw [decide_eq_true hsn, decide_eq_false hrn]; decide
      have hv : cmpT (.mk n s L) (.mk m r M) = -1 := by rw [HEQ.out, if_pos hdd, if_pos hsn]
      clear hrn hdd
      rw [hv]
      subst hre
      clear hv HEQ
      go_enter Tryz.func67, Tryz.ntmps67
      go_wp2_with fail
      go_ret
      exact ⟨rfl, HZ.out⟩
    · have hrn : r ≠ nul := fun e => hr (by rw [e]; rfl)
      obtain ⟨f1, f2, f3, f4⟩ := nonempty_t r (Nat.pos_of_ne_zero hr)
      rw [if_neg (by simp [hsn, hrn])] at HEQ
      by_cases h1 : bcmp n m = 0
      rotate_left
      · have t1 : (bcmp n m != 0) = true := by simpa using h1
        have t1' : decide (bcmp n m = 0) = false := decide_eq_false h1
        have hv : cmpT (.mk n s L) (.mk m r M) = bcmp n m := by rw [HEQ.out, if_pos h1]
        rw [hv]
        clear hv h1 HEQ
        generalize bcmp n m = Z at *
        go_enter Tryz.func67, Tryz.ntmps67
        go_wp2_with fail
        refine (HO1.out _).mono ?_
        rintro e w4 ⟨rfl, hw4⟩
        have H4 := Lib.hid (hw4)
        clear hw4
        clear a0 a1 a2 b0 b1 b2
        have ha4 := H4.out.heap HA.out (fun h => h)
        have hb4 := H4.out.heap HB.out (fun h => h)
        have a0 := cellRow ha4 0 (.string n) rfl
        have a1 := cellRow ha4 1 (.string s) rfl
        have a2 := cellRow ha4 2 (.slice aa L.length ca) rfl
        have b0 := cellRow hb4 0 (.string m) rfl
        have b1 := cellRow hb4 1 (.string r) rfl
        have b2 := cellRow hb4 2 (.slice ab M.length cb) rfl
        clear ha4 hb4
        go_wp2_with fail
        go_ret
        exact ⟨rfl, HZ.out.ext H4.out⟩
      rw [if_neg (by simp [h1])] at HEQ
      rw [h1] at HO1
      clear h1
      by_cases h2 : bcmp s r = 0
      rotate_left
      · have t1 : (bcmp s r != 0) = true := by simpa using h2
        have t1' : decide (bcmp s r = 0) = false := decide_eq_false h2
        have hv : cmpT (.mk n s L) (.mk m r M) = bcmp s r := by rw [HEQ.out, if_pos h2]
        rw [hv]
        clear hv h2 HEQ
        generalize bcmp s r = Z at *
        go_enter Tryz.func67, Tryz.ntmps67
        go_wp2_with fail
        refine (HO1.out _).mono ?_
        rintro e w4 ⟨rfl, hw4⟩
        have H4 := Lib.hid (hw4)
        clear hw4
        clear a0 a1 a2 b0 b1 b2
        have ha4 := H4.out.heap HA.out (fun h => h)
        have hb4 := H4.out.heap HB.out (fun h => h)
        have a0 := cellRow ha4 0 (.string n) rfl
        have a1 := cellRow ha4 1 (.string s) rfl
        have a2 := cellRow ha4 2 (.slice aa L.length ca) rfl
        have b0 := cellRow hb4 0 (.string m) rfl
        have b1 := cellRow hb4 1 (.string r) rfl
        have b2 := cellRow hb4 2 (.slice ab M.length cb) rfl
        clear ha4 hb4
        go_wp2_with fail
        refine (HO2.out _).mono ?_
        rintro e w5 ⟨rfl, hw5⟩
        have H5 := Lib.hid (H4.out.ext hw5)
        clear hw5
        clear a0 a1 a2 b0 b1 b2
        have ha5 := H5.out.heap HA.out (fun h => h)
        have hb5 := H5.out.heap HB.out (fun h => h)
        have a0 := cellRow ha5 0 (.string n) rfl
        have a1 := cellRow ha5 1 (.string s) rfl
        have a2 := cellRow ha5 2 (.slice aa L.length ca) rfl
        have b0 := cellRow hb5 0 (.string m) rfl
        have b1 := cellRow hb5 1 (.string r) rfl
        have b2 := cellRow hb5 2 (.slice ab M.length cb) rfl
        clear ha5 hb5
        go_wp2_with fail
        go_ret
        exact ⟨rfl, HZ.out.ext H5.out⟩
      rw [if_neg (by simp [h2])] at HEQ
      rw [h2] at HO2
      clear h2
      by_cases h3 : L.length = M.length
      rotate_left
      · have u1 : ((L.length : Int) != (M.length : Int)) = true := by simp; omega
        have u1' : decide ((L.length : Int) = (M.length : Int)) = false := decide_eq_false (by omega)
        have u1'' : decide (L.length = M.length) = false := decide_eq_false h3
        rw [if_pos h3] at HEQ
        by_cases h4 : L.length < M.length
        · have u2 : decide ((L.length : Int) < (M.length : Int)) = true := decide_eq_true (by omega)
          have u2' : decide (L.length < M.length) = true := decide_eq_true h4
          have hv : cmpT (.mk n s L) (.mk m r M) = -1 := by rw [HEQ.out, if_pos h4]
          rw [hv]
          clear hv HEQ
          go_enter Tryz.func67, Tryz.ntmps67
          go_wp2_with fail
          refine (HO1.out _).mono ?_
          rintro e w4 ⟨rfl, hw4⟩
          have H4 := Lib.hid (hw4)
          clear hw4
          clear a0 a1 a2 b0 b1 b2
          have ha4 := H4.out.heap HA.out (fun h => h)
          have hb4 := H4.out.heap HB.out (fun h => h)
          have a0 := cellRow ha4 0 (.string n) rfl
          have a1 := cellRow ha4 1 (.string s) rfl
          have a2 := cellRow ha4 2 (.slice aa L.length ca) rfl
          have b0 := cellRow hb4 0 (.string m) rfl
          have b1 := cellRow hb4 1 (.string r) rfl
          have b2 := cellRow hb4 2 (.slice ab M.length cb) rfl
          clear ha4 hb4
          go_wp2_with fail
          refine (HO2.out _).mono ?_
          rintro e w5 ⟨rfl, hw5⟩
          have H5 := Lib.hid (H4.out.ext hw5)
          clear hw5
          clear a0 a1 a2 b0 b1 b2
          have ha5 := H5.out.heap HA.out (fun h => h)
          have hb5 := H5.out.heap HB.out (fun h => h)
          have a0 := cellRow ha5 0 (.string n) rfl
          have a1 := cellRow ha5 1 (.string s) rfl
          have a2 := cellRow ha5 2 (.slice aa L.length ca) rfl
          have b0 := cellRow hb5 0 (.string m) rfl
          have b1 := cellRow hb5 1 (.string r) rfl
          have b2 := cellRow hb5 2 (.slice ab M.length cb) rfl
          clear ha5 hb5
          go_wp2_with fail
          go_ret
          exact ⟨rfl, HZ.out.ext H5.out⟩
        · have u2 : decide ((L.length : Int) < (M.length : Int)) = false := decide_eq_false (by omega)
          have u2' : decide (L.length < M.length) = false := decide_eq_false h4
          have hv : cmpT (.mk n s L) (.mk m r M) = 1 := by rw [HEQ.out, if_neg h4]
          rw [hv]
          clear hv HEQ
          go_enter Tryz.func67, Tryz.ntmps67
          go_wp2_with fail
          refine (HO1.out _).mono ?_
          rintro e w4 ⟨rfl, hw4⟩
          have H4 := Lib.hid (hw4)
          clear hw4
          clear a0 a1 a2 b0 b1 b2
          have ha4 := H4.out.heap HA.out (fun h => h)
          have hb4 := H4.out.heap HB.out (fun h => h)
          have a0 := cellRow ha4 0 (.string n) rfl
          have a1 := cellRow ha4 1 (.string s) rfl
          have a2 := cellRow ha4 2 (.slice aa L.length ca) rfl
          have b0 := cellRow hb4 0 (.string m) rfl
          have b1 := cellRow hb4 1 (.string r) rfl
          have b2 := cellRow hb4 2 (.slice ab M.length cb) rfl
          clear ha4 hb4
          go_wp2_with fail
          refine (HO2.out _).mono ?_
          rintro e w5 ⟨rfl, hw5⟩
          have H5 := Lib.hid (H4.out.ext hw5)
          clear hw5
          clear a0 a1 a2 b0 b1 b2
          have ha5 := H5.out.heap HA.out (fun h => h)
          have hb5 := H5.out.heap HB.out (fun h => h)
          have a0 := cellRow ha5 0 (.string n) rfl
          have a1 := cellRow ha5 1 (.string s) rfl
          have a2 := cellRow ha5 2 (.slice aa L.length ca) rfl
          have b0 := cellRow hb5 0 (.string m) rfl
          have b1 := cellRow hb5 1 (.string r) rfl
          have b2 := cellRow hb5 2 (.slice ab M.length cb) rfl
          clear ha5 hb5
          go_wp2_with fail
          go_ret
          exact ⟨rfl, HZ.out.ext H5.out⟩
      rw [if_neg (by simp [h3])] at HEQ
      have u1 : ((L.length : Int) != (M.length : Int)) = false := by simp; omega
      have u1' : decide ((L.length : Int) = (M.length : Int)) = true := decide_eq_true (by omega)
      have u1'' : decide (L.length = M.length) = true := decide_eq_true h3
      have H3 := Lib.hid h3
      clear h3
      go_enter Tryz.func67, Tryz.ntmps67
      go_wp2_with fail
      refine (HO1.out _).mono ?_
      rintro e w4 ⟨rfl, hw4⟩
      have H4 := Lib.hid (hw4)
      clear hw4
      clear a0 a1 a2 b0 b1 b2
      have ha4 := H4.out.heap HA.out (fun h => h)
      have hb4 := H4.out.heap HB.out (fun h => h)
      have a0 := cellRow ha4 0 (.string n) rfl
      have a1 := cellRow ha4 1 (.string s) rfl
      have a2 := cellRow ha4 2 (.slice aa L.length ca) rfl
      have b0 := cellRow hb4 0 (.string m) rfl
      have b1 := cellRow hb4 1 (.string r) rfl
      have b2 := cellRow hb4 2 (.slice ab M.length cb) rfl
      clear ha4 hb4
      go_wp2_with fail
      refine (HO2.out _).mono ?_
      rintro e w5 ⟨rfl, hw5⟩
      have H5 := Lib.hid (H4.out.ext hw5)
      clear hw5
      clear a0 a1 a2 b0 b1 b2
      have ha5 := H5.out.heap HA.out (fun h => h)
      have hb5 := H5.out.heap HB.out (fun h => h)
      have a0 := cellRow ha5 0 (.string n) rfl
      have a1 := cellRow ha5 1 (.string s) rfl
      have a2 := cellRow ha5 2 (.slice aa L.length ca) rfl
      have b0 := cellRow hb5 0 (.string m) rfl
      have b1 := cellRow hb5 1 (.string r) rfl
      have b2 := cellRow hb5 2 (.slice ab M.length cb) rfl
      clear ha5 hb5
      go_wp2_with fail
      clear a0 a1 a2 b0 b1 b2
      have hlL : L.length ≤ 1000000 := by have h1 := length_le_sizes L; have h2 := hsz; rw [size_eq] at h2; exact Nat.le_trans h1 (Nat.le_of_succ_le h2)
      go_loopg [7] L.length (fun gk iv wr => ∃ k : Nat, iv = .int .i64 (k : Int) ∧ gk = L.length - k ∧ k ≤ L.length ∧ Hid (∀ j, j < k → cmpT (tg L j) (tg M j) = 0) ∧ Hid (Ext ((w.alloc (.cells #[.string n, .string s, .slice aa L.length ca] 25)).alloc (.cells #[.string m, .string r, .slice ab M.length cb] 25)) wr))
      case atStart => exact ⟨0, rfl, rfl, Nat.zero_le _, Lib.hid (fun j h => absurd h (Nat.not_lt_zero _)), H5⟩
      case round =>
        obtain ⟨k, rfl, rfl, hk, HC, HE⟩ := hrel
        have HEw := Lib.hid (HZ.out.ext HE.out)
        have haw := HE.out.heap HA.out (fun h => h)
        have hbw := HE.out.heap HB.out (fun h => h)
        have a0 := cellRow haw 0 (.string n) rfl
        have a1 := cellRow haw 1 (.string s) rfl
        have a2 := cellRow haw 2 (.slice aa L.length ca) rfl
        have b0 := cellRow hbw 0 (.string m) rfl
        have b1 := cellRow hbw 1 (.string r) rfl
        have b2 := cellRow hbw 2 (.slice ab M.length cb) rfl
        clear haw hbw
        by_cases hlt : k < L.length
        · have hltM : k < M.length := by have := H3.out; omega
          obtain ⟨g, off, rfl, _, hat⟩ := (HTL.out.1.ext HEw.out).at_ (by omega)
          obtain ⟨g', off', rfl, _, hat'⟩ := (HTL.out.2.ext HEw.out).at_ (by omega)
          obtain ⟨ka, kc, q0, q1, q2, hkid⟩ := hat k hlt
          obtain ⟨ka', kc', p0, p1, p2, hkid'⟩ := hat' k hltM
          have z0 : (0 : Int) ≤ (k : Int) := by omega
          have z1 : (k : Int) < (L.length : Int) := by omega
          have z2 : decide ((k : Int) < (L.length : Int)) = true := decide_eq_true z1
          have z2' : decide (k < L.length) = true := decide_eq_true hlt
          have z3 : (k : Int) < (M.length : Int) := by omega
          have hmem : tg L k ∈ L := by unfold tg; rw [List.getD_eq_getElem?_getD, List.getElem?_eq_getElem hlt]; exact List.getElem_mem hlt
          have hszk : (tg L k).size ≤ 1000000 := by have h1 := size_mem hmem; have h2 := hsz; rw [size_eq] at h2; exact Nat.le_trans h1 (Nat.le_of_succ_le h2)
          have HIX := Lib.hid (fun W (hW : Ext wr W) => HIH.out (tg L k) hmem (tg M k) _ _ S T W ⟨ka, kc, rfl, hkid.ext hW⟩ ⟨ka', kc', rfl, hkid'.ext hW⟩ hszk)
          have HOF := Lib.hid (cmps_of L M k H3.out hlt HC.out)
          have HNX := Lib.hid (fun h : cmpT (tg L k) (tg M k) = 0 => fun j (hj : j < k + 1) => by
            rcases Nat.lt_succ_iff_lt_or_eq.1 hj with h5 | h5
            · exact HC.out j h5
            · rw [h5]; exact h)
          dsimp only [tV] at HIX
          obtain ⟨R, hR⟩ : ∃ R, cmpT (tg L k) (tg M k) = R := ⟨_, rfl⟩
          rw [hR] at HIX
          have HRR := Lib.hid hR
          clear hR hmem hat hat' hkid hkid'
          obtain ⟨x, hx⟩ : ∃ x, tg L k = x := ⟨_, rfl⟩
          obtain ⟨y, hy⟩ : ∃ y, tg M k = y := ⟨_, rfl⟩
          rw [hx] at q0 q1 q2 HIX
          rw [hy] at p0 p1 p2 HIX
          clear hx hy hszk hltM
          rw [← Nat.add_assoc] at q1 q2 p1 p2
          have xq0 := fun x : XW wr => x.ext.cell q0 (fun h => h)
          have xq1 := fun x : XW wr => x.ext.cell q1 (fun h => h)
          have xq2 := fun x : XW wr => x.ext.cell q2 (fun h => h)
          have xp0 := fun x : XW wr => x.ext.cell p0 (fun h => h)
          have xp1 := fun x : XW wr => x.ext.cell p1 (fun h => h)
          have xp2 := fun x : XW wr => x.ext.cell p2 (fun h => h)
          have xa2 := fun x : XW wr => x.ext.cell a2 (fun h => h)
          have xb2 := fun x : XW wr => x.ext.cell b2 (fun h => h)
          have hrfs := Upd.refl (fun _ => False) wr
          clear q0 q1 q2 p0 p1 p2 a0 a1 b0 b1 b2
          go_wp2_with fail
          clear a2
          refine wp_region_ext wr (by assumption) (by kernel_rfl) (by kernel_rfl) ?_
          repeat (first | go_big_quiet_skip | (go_big_quiet_want; go_big_quiet_op; first | go_big_quiet_on | (apply Exists.intro; refine ⟨fun x => ?_, ?_⟩; (go_at_call 67; exact XW.call (HIX.out x.val x.ext)); go_big_quiet_on)))
          refine wpQuiet_nil ?_
          rintro w8 ⟨⟨_, hyw8⟩, rfl⟩
          try dsimp only
          have HE8 := Lib.hid (HE.out.ext hyw8)
          clear xq0 xq1 xq2 xp0 xp1 xp2 xa2 xb2 hrfs hyw8 HIX
          by_cases hz : R = 0
          · have hz1 : (R != 0) = false := by simp [hz]
            have HN := Lib.hid (HNX.out (HRR.out.trans hz))
            have hzz := Lib.hid hz
            clear hz
            go_wp2_with fail
            go_roundg (L.length - (k + 1))
            case measure => omega
            case rel => exact ⟨k + 1, by go_num, rfl, by omega, HN, HE8⟩
          · have hz1 : (R != 0) = true := by simpa using hz
            have HV : Hid (cmpT (.mk n s L) (.mk m r M) = R) := Lib.hid (by rw [HEQ.out, HOF.out (by show cmpT (tg L k) (tg M k) ≠ 0; rw [HRR.out]; exact hz)]; exact HRR.out)
            have hzz := Lib.hid hz
            clear hz
            go_wp2_with fail
            go_ret
            rw [HV.out]
            exact ⟨rfl, HZ.out.ext HE8.out⟩
        · obtain rfl : k = L.length := by omega
          have HV : Hid (cmpT (.mk n s L) (.mk m r M) = 0) := Lib.hid (by rw [HEQ.out]; exact cmps_all L M H3.out HC.out)
          go_wp2_with fail
          go_ret
          rw [HV.out]
          exact ⟨rfl, HEw.out⟩

end Go.Proofs.YtiimccogojkldaaGreatDoor

/- Same of the reference. -/
namespace Go.Proofs.YtiimccogojkldaaGreatDoor
open Go.RowKit Go.Hw Go
set_option linter.unusedVariables false
set_option linter.unusedSimpArgs false

open Tm
set_option maxRecDepth 100000 in
set_option maxHeartbeats 2000000 in
theorem same_x (t u : Tm) (v v' : Value) (S T : Nat → Prop) (w : World) (hR : TmR S w t v) (hR' : TmR T w u v') (hsz : t.size ≤ 1000000) :
    Calls Tryz.prog 33 #[v, v'] w fun e w' => e = .returned (.bool (decide (t = u))) ∧ Ext w w' := by
  have HR := Lib.hid (And.intro hR hR')
  obtain ⟨aa, ca, rfl, hT⟩ := hR
  obtain ⟨ab, cb, rfl, hT'⟩ := hR'
  have HC := Lib.hid (fun W (hW : Ext w W) => compare_x t u _ _ S T W (HR.out.1.ext hW) (HR.out.2.ext hW) hsz)
  dsimp only [tV] at HC ⊢
  have HZ := Lib.hid (((Upd.refl (fun _ => False) w).alloc (.cells #[.string t.name, .string t.sort, .slice aa t.kids.length ca] 25)).alloc (.cells #[.string u.name, .string u.sort, .slice ab u.kids.length cb] 25))
  have HA := Lib.hid (allocOld (alloc0 w (.cells #[.string t.name, .string t.sort, .slice aa t.kids.length ca] 25)) (.cells #[.string u.name, .string u.sort, .slice ab u.kids.length cb] 25))
  have HB := Lib.hid (alloc_at (w.alloc (.cells #[.string t.name, .string t.sort, .slice aa t.kids.length ca] 25)) (.cells #[.string u.name, .string u.sort, .slice ab u.kids.length cb] 25) (n := w.heap.size + 1) (by simp))
  have a0 := cellRow HA.out 0 (.string t.name) rfl
  have a1 := cellRow HA.out 1 (.string t.sort) rfl
  have a2 := cellRow HA.out 2 (.slice aa t.kids.length ca) rfl
  have b0 := cellRow HB.out 0 (.string u.name) rfl
  have b1 := cellRow HB.out 1 (.string u.sort) rfl
  have b2 := cellRow HB.out 2 (.slice ab u.kids.length cb) rfl
  have hz : decide (t = u) = (cmpT t u == 0) := by
    rw [Bool.eq_iff_iff, decide_eq_true_eq, beq_iff_eq, cmpT_zero]
  rw [hz]
  clear hz hT hT'
  generalize cmpT t u = Z at *
  go_enter Tryz.func33, Tryz.ntmps33
  go_wp2_with fail
  refine (HC.out _ HZ.out).mono ?_
  rintro e w4 ⟨rfl, hw4⟩
  have H4 := Lib.hid (HZ.out.ext hw4)
  clear hw4 a0 a1 a2 b0 b1 b2
  go_wp2_with fail
  go_ret
  exact ⟨rfl, H4.out⟩

end Go.Proofs.YtiimccogojkldaaGreatDoor

/- The reference's table by its index: pure; lists of fields in memory. -/
namespace Go.Hw
open Go.RowKit Tm
set_option linter.unusedVariables false
set_option linter.unusedSimpArgs false
abbrev vg (l : List Vd) (i : Nat) : Vd := l.getD i (nul, nul)
/-- the first place that is not before f -/
def vix (l : List Vd) (f : Vd) : Nat := match l with
  | [] => 0
  | g :: l => if blt g.1 f.1 = true then vix l f + 1 else 0
theorem vix_le (f : Vd) : ∀ l : List Vd, vix l f ≤ l.length
  | [] => Nat.le_refl _
  | g :: l => by
    unfold vix
    split
    · simpa using vix_le f l
    · simp
theorem vix_lt (f : Vd) : ∀ (l : List Vd) (j : Nat), j < vix l f → blt (vg l j).1 f.1 = true
  | [], j, h => by simp [vix] at h
  | g :: l, j, h => by
    unfold vix at h
    split at h
    · rename_i hb
      cases j with
      | zero => exact hb
      | succ j => exact vix_lt f l j (by omega)
    · simp at h
theorem vix_at (f : Vd) : ∀ (l : List Vd), vix l f < l.length → blt (vg l (vix l f)).1 f.1 = false
  | [], h => by simp at h
  | g :: l, h => by
    unfold vix at h ⊢
    by_cases hb : blt g.1 f.1 = true
    · rw [if_pos hb] at h ⊢
      exact vix_at f l (by simpa using h)
    · rw [if_neg hb]
      exact Bool.eq_false_iff.2 hb
/-- the index is found where the loop stops -/
theorem vix_uniq (l : List Vd) (f : Vd) (k : Nat) (hk : k ≤ l.length) (h1 : ∀ j, j < k → blt (vg l j).1 f.1 = true) (h2 : k < l.length → blt (vg l k).1 f.1 = false) : vix l f = k := by
  rcases Nat.lt_trichotomy (vix l f) k with h | h | h
  · have h3 := vix_at f l (by omega)
    rw [h1 _ h] at h3; cases h3
  · exact h
  · have h3 := vix_lt f l k h
    rw [h2 (by have := vix_le f l; omega)] at h3; cases h3
theorem vadd_ix (f : Vd) : ∀ l : List Vd, vadd l f = if vix l f < l.length ∧ (vg l (vix l f)).1 = f.1 then (l, decide ((vg l (vix l f)).2 = f.2)) else (l.take (vix l f) ++ f :: l.drop (vix l f), true)
  | [] => by simp [vadd, vix]
  | g :: l => by
    have ih := vadd_ix f l
    unfold vadd vix
    by_cases hb : blt g.1 f.1 = true
    · rw [if_pos hb, if_pos hb]
      have e : vg (g :: l) (vix l f + 1) = vg l (vix l f) := rfl
      by_cases hc : vix l f < l.length ∧ (vg l (vix l f)).1 = f.1
      · rw [if_pos hc] at ih
        rw [ih]
        exact (if_pos (c := vix l f + 1 < (g :: l).length ∧ (vg (g :: l) (vix l f + 1)).1 = f.1) ⟨by simpa using hc.1, hc.2⟩).symm
      · rw [if_neg hc] at ih
        rw [ih, if_neg (fun h => hc ⟨by simpa using h.1, h.2⟩)]
        simp
    · rw [if_neg hb, if_neg hb]
      by_cases hc : g.1 = f.1
      · rw [if_pos hc]
        exact (if_pos (c := 0 < (g :: l).length ∧ (vg (g :: l) 0).1 = f.1) ⟨by simp, hc⟩).symm
      · rw [if_neg hc, if_neg (fun h => hc h.2)]
        simp
/-- the cells of a list of fields -/
def fCells (l : List Vd) : List Value := l.flatMap fun f => [.string f.1, .string f.2]
theorem fCells_len (l : List Vd) : (fCells l).length = l.length * 2 := by
  induction l with
  | nil => rfl
  | cons a l ih => simp only [fCells, List.flatMap_cons, List.length_append, List.length_cons, List.length_nil] at ih ⊢; omega
theorem fCells_append (l m : List Vd) : fCells (l ++ m) = fCells l ++ fCells m := by simp [fCells]
theorem fCells_at : ∀ (l : List Vd) (i : Nat), i < l.length → (fCells l)[i * 2]? = some (.string (vg l i).1) ∧ (fCells l)[i * 2 + 1]? = some (.string (vg l i).2)
  | a :: l, 0, _ => ⟨rfl, rfl⟩
  | a :: l, i + 1, h => by
    obtain ⟨h0, h1⟩ := fCells_at l i (by simpa using h)
    have e : ∀ k, (fCells (a :: l))[(i + 1) * 2 + k]? = (fCells l)[i * 2 + k]? := fun k => by
      rw [show (i + 1) * 2 + k = i * 2 + k + 1 + 1 by omega]
      rfl
    exact ⟨by rw [← Nat.add_zero ((i + 1) * 2), e]; exact h0, by rw [e]; exact h1⟩
theorem fCells_take (l : List Vd) : ∀ k, (fCells l).take (k * 2) = fCells (l.take k) := by
  induction l with
  | nil => intro k; simp [fCells]
  | cons a l ih =>
    intro k
    cases k with
    | zero => simp [fCells]
    | succ k =>
      have h := ih k
      simp only [fCells, List.flatMap_cons, List.take_succ_cons] at h ⊢
      rw [show (k + 1) * 2 = k * 2 + 1 + 1 by omega]
      simp only [List.cons_append, List.nil_append, List.take_succ_cons, h]
theorem fCells_drop (l : List Vd) : ∀ k, (fCells l).drop (k * 2) = fCells (l.drop k) := by
  induction l with
  | nil => intro k; simp [fCells]
  | cons a l ih =>
    intro k
    cases k with
    | zero => simp [fCells]
    | succ k =>
      have h := ih k
      simp only [fCells, List.flatMap_cons, List.drop_succ_cons] at h ⊢
      rw [show (k + 1) * 2 = k * 2 + 1 + 1 by omega]
      simp only [List.cons_append, List.nil_append, List.drop_succ_cons, h]
theorem fCells_one (l : List Vd) : ∀ u ∈ fCells l, u.oneCell' = true := by
  intro u hu
  unfold fCells at hu
  rw [List.mem_flatMap] at hu
  obtain ⟨f, _, hf⟩ := hu
  simp at hf
  rcases hf with rfl | rfl <;> rfl
def FiR (S : Nat → Prop) (w : World) (v : Value) (l : List Vd) : Prop := SlR S w 2 v l.length (fCells l)
theorem FiR.shape {S : Nat → Prop} {w : World} {v : Value} {l : List Vd} (h : FiR S w v l) : ∃ a cap, v = .slice a l.length cap := SlR.shape h
theorem FiR.ext {S : Nat → Prop} {w w' : World} {v : Value} {l : List Vd} (h : FiR S w v l) (hu : Ext w w') : FiR S w' v l := SlR.kept h hu (fun _ _ h => h)
theorem FiR.at_ {S : Nat → Prop} {w : World} {a : Option Addr} {n cap : Nat} {l : List Vd} (h : FiR S w (.slice a n cap) l) (hl : 0 < l.length) :
    ∃ g off, a = some ⟨g, off, none⟩ ∧ ∀ i, i < l.length → w.cell? ⟨g, off + i * 2, none⟩ = some (.string (vg l i).1) ∧ w.cell? ⟨g, off + i * 2 + 1, none⟩ = some (.string (vg l i).2) := by
  obtain ⟨g, off, c, e, _, _, hj⟩ := SlR.pos h hl
  injection e with e1 e2 e3
  refine ⟨g, off, e1, fun i hi => ?_⟩
  obtain ⟨h0, h1⟩ := fCells_at l i hi
  exact ⟨by rw [hj _ (by omega), h0], by rw [Nat.add_assoc, hj _ (by omega), h1]⟩
end Go.Hw

/- A drawn region walked once: what only reads is taken when it may come up; the rest comes up alone, one behind the other; a condition S on the world holds till the sink. -/
namespace Go.Hw
open Go.RowKit
set_option linter.unusedVariables false
set_option linter.unusedSimpArgs false

section
variable {P : Program} {ops : Array Oper} {Q : Exit → Act → World → Prop} {md : Region.Mode} {S : World → Prop} {n : Nat}

/-- whatever order is picked; S holds behind each operation till number n has come up -/
def wpTill (P : Program) (md : Region.Mode) (ops : Array Oper) (Q : Exit → Act → World → Prop) (S : World → Prop) (n : Nat) : Nat → Array Bool → Act → World → Prop
  | 0, l, a, w => Region.ready md ops l = [] ∧ Q .normal a w
  | f + 1, l, a, w =>
    (Region.ready md ops l = [] → Q .normal a w) ∧
    ∀ i ∈ Region.ready md ops l, wpOp P ops Q i (fun a' w' => (S w' ∨ (l.setIfInBounds i true).getD n false = true) ∧ wpTill P md ops Q S n f (l.setIfInBounds i true) a' w') a w
theorem wpAny_of_till : ∀ (f : Nat) (l : Array Bool) (a : Act) (w : World), wpTill P md ops Q S n f l a w → wpAny P md ops Q f l a w
  | 0, _, _, _, h => h
  | f + 1, _, _, _, h => ⟨h.1, fun i hi => wpOp_mono (fun a' w' h' => wpAny_of_till f _ a' w' h'.2) (h.2 i hi)⟩

/-- what has come up has all that it waits for behind it -/
structure Deps (md : Region.Mode) (ops : Array Oper) (l : Array Bool) : Prop where
  size : l.size = ops.size
  back : ∀ j o, ops[j]? = some o → l.getD j false = true → ∀ e ∈ o.after, Region.binds md e = true → l.getD e.on false = true
theorem getD_ff {l : Array Bool} {i : Nat} (h : l.getD i true = false) : l.getD i false = false := by
  rcases Nat.lt_or_ge i l.size with h' | h'
  · simp [h'] at h ⊢; exact h
  · simp [Array.getElem?_eq_none h'] at h
theorem getD_tf {l : Array Bool} {i : Nat} (hi : i < l.size) (h : l.getD i false = false) : l.getD i true = false := by
  simp [hi] at h ⊢; exact h
theorem Deps.step {l : Array Bool} {i : Nat} (h : Deps md ops l) (hi : i ∈ Region.ready md ops l) : Deps md ops (l.setIfInBounds i true) := by
  obtain ⟨_, oi, hoi, hall⟩ := mem_ready.1 hi
  refine ⟨by rw [Array.size_setIfInBounds]; exact h.size, fun j o ho hl e he hb => ?_⟩
  by_cases hij : i = j
  · subst hij
    obtain rfl : oi = o := Option.some.inj (hoi.symm.trans ho)
    exact getD_set_true (hall e he hb)
  · rw [getD_set_ne false hij] at hl
    exact getD_set_true (h.back j o ho hl e he hb)
theorem Deps.start : Deps md ops (Array.replicate ops.size false) :=
  ⟨by simp, fun j o _ hl => by
    rcases Nat.lt_or_ge j ops.size with h | h
    · simp [h] at hl
    · simp [h] at hl⟩
/-- the sink waits -/
theorem sink_not_ready {l : Array Bool} (hs : Region.sinkB md ops n = true) (h : Deps md ops l) : ∀ (k i : Nat), n - i ≤ k → i < n → l.getD i true = false → n ∉ Region.ready md ops l := by
  intro k
  induction k with
  | zero => intro i h1 h2; omega
  | succ k ih =>
    intro i hd hi hun hr
    obtain ⟨_, ot, hot, hall⟩ := mem_ready.1 hr
    obtain ⟨j, hj, hj2⟩ := List.any_eq_true.1 (List.all_eq_true.1 hs i (List.mem_range.2 hi))
    simp only [Bool.and_eq_true, decide_eq_true_eq] at hj2
    have hjn := List.mem_range.1 hj
    obtain ⟨oj, hoj, e, he, hb, hon⟩ := Region.waitsFor_spec hj2.2
    have hjl : l.getD j false = true → False := fun hl => by
      have := h.back j oj hoj hl e he hb
      rw [hon, getD_ff hun] at this
      cases this
    by_cases hjt : j = n
    · subst hjt
      obtain rfl : oj = ot := Option.some.inj (hoj.symm.trans hot)
      have := hall e he hb
      rw [hon, getD_ff hun] at this
      cases this
    · cases hl : l.getD j false with
      | true => exact hjl hl
      | false =>
        have hjs : j < l.size := by rw [h.size]; exact (Array.getElem?_eq_some_iff.1 hoj).1
        exact ih j (by omega) (by omega) (getD_tf hjs hl) hr

theorem wpTill_first {i : Nat} {oi : Oper} {v : Value} (hi : ops[i]? = some oi) (hsel : ∀ (j : Nat) (o : Oper) cs b, ops[j]? = some o → o.op ≠ .select cs b)
    (hQ : ∀ c a w, Q (.panic c) (a.put oi.dst v) w → Q (.panic c) a w) (hs : Region.sinkB md ops n = true) (hin : i < n) :
    ∀ (f : Nat) (l : Array Bool) (a : Act) (w : World), Deps md ops l → l.getD n false = false →
      (∀ j oj, ops[j]? = some oj → j ≠ i → l.getD j true = false → (∀ e ∈ oj.after, Region.binds md e = true → e.on ≠ i) → oi.apart ops oj = true) →
      i ∈ Region.ready md ops l → YieldsIf P ops S oi v a → S w →
      wpTill P md ops Q S n f (l.setIfInBounds i true) (a.put oi.dst v) w → wpTill P md ops Q S n (f + 1) l a w := by
  intro f
  induction f with
  | zero =>
    intro l a w _ _ _ hr hy hS H
    refine ⟨fun h => (by rw [h] at hr; cases hr), fun j hj => ?_⟩
    by_cases hji : j = i
    · subst hji; exact hy.wpOp hi hS ⟨.inl hS, H⟩
    · have := ready_mono hj hji
      rw [H.1] at this
      cases this
  | succ f ih =>
    intro l a w hd hn hfree hr hy hS H
    have hun := (mem_ready.1 hr).1
    refine ⟨fun h => (by rw [h] at hr; cases hr), fun j hj => ?_⟩
    by_cases hji : j = i
    · subst hji; exact hy.wpOp hi hS ⟨.inl hS, H⟩
    · have hjn : j ≠ n := fun e => by subst e; exact sink_not_ready hs hd _ i (Nat.le_refl _) hin hun hj
      obtain ⟨hjun, oj, hoj, hall⟩ := mem_ready.1 hj
      have hnot : ∀ e ∈ oj.after, Region.binds md e = true → e.on ≠ i := fun e he hb heq => by
        have h1 := hall e he hb
        rw [heq, getD_ff hun] at h1
        cases h1
      have h2 := wpOp_putIf hoj (hfree j oj hoj hji hjun hnot) (fun cs b => hsel i oi cs b hi) (fun cs b => hsel j oj cs b hoj) hQ hy (H.2 j (ready_mono hj hji))
      have hn' : (l.setIfInBounds j true).getD n false = false := by rw [getD_set_ne false hjn]; exact hn
      have hfree' : ∀ k ok, ops[k]? = some ok → k ≠ i → (l.setIfInBounds j true).getD k true = false →
          (∀ e ∈ ok.after, Region.binds md e = true → e.on ≠ i) → oi.apart ops ok = true := fun k ok hk hki hun' hno => by
        refine hfree k ok hk hki ?_ hno
        by_cases hjk : j = k
        · subst hjk; exact hjun
        · rw [getD_set_ne true hjk] at hun'; exact hun'
      refine wpOp_mono (fun a' w' h3 => ?_) h2
      obtain ⟨hy', hSw, ht⟩ := h3
      have hSw' : S w' := by
        rcases hSw with h | h
        · exact h
        · rw [getD_set_ne false hjn, getD_set_ne false (by omega), hn] at h; cases h
      refine ⟨.inl hSw', ih (l.setIfInBounds j true) a' w' (hd.step hj) hn' hfree' (ready_mono hr (Ne.symm hji)) hy' hSw' ?_⟩
      rw [Array.setIfInBounds_comm _ _ hji]
      exact ht
theorem wpTill_alone {k f : Nat} {l : Array Bool} {a : Act} {w : World} (hr : Region.ready md ops l = [k])
    (h : wpOp P ops Q k (fun a' w' => (S w' ∨ (l.setIfInBounds k true).getD n false = true) ∧ wpTill P md ops Q S n f (l.setIfInBounds k true) a' w') a w) : wpTill P md ops Q S n (f + 1) l a w := by
  refine ⟨fun h0 => ?_, fun i hi => ?_⟩
  · rw [hr] at h0; cases h0
  · rw [hr] at hi
    have : i = k := by simpa using hi
    subst this
    exact h

/-- the order of the walk holds: 0: taken; 1: alone, S shown behind it; 2: alone, the sink or behind it -/
def mixB (md : Region.Mode) (ops : Array Oper) (n : Nat) : List (Nat × Nat) → Array Bool → Bool
  | [], l => (Region.ready md ops l).isEmpty
  | (k, 0) :: r, l => (Region.ready md ops l).contains k && Region.free md ops l k && decide (k < n) && !l.getD n false && mixB md ops n r (l.setIfInBounds k true)
  | (k, 1) :: r, l => decide (Region.ready md ops l = [k]) && mixB md ops n r (l.setIfInBounds k true)
  | (k, _ + 2) :: r, l => decide (Region.ready md ops l = [k]) && (l.setIfInBounds k true).getD n false && mixB md ops n r (l.setIfInBounds k true)

/-- the walk -/
def wpMix (P : Program) (ops : Array Oper) (Q : Exit → Act → World → Prop) (S : World → Prop) : List (Nat × Oper) → Act → World → Prop
  | [], a, w => Q .normal a w
  | (0, o) :: r, a, w => if Region.wanted o (yielded ops a.tmps) then ∃ v, (∀ W, S W → (execOp a.eval o).run P W = .ok (.value v) W) ∧ wpMix P ops Q S r (a.put o.dst v) w else wpMix P ops Q S r (a.put o.dst undef) w
  | (1, o) :: r, a, w => if Region.wanted o (yielded ops a.tmps) then o.wp P a w (fun a' w' => S w' ∧ wpMix P ops Q S r a' w') Q else wpMix P ops Q S r (a.put o.dst undef) w
  | (_ + 2, o) :: r, a, w => if Region.wanted o (yielded ops a.tmps) then o.wp P a w (wpMix P ops Q S r) Q else wpMix P ops Q S r (a.put o.dst undef) w

/-- the operations, in the order of the walk -/
def pickO (l : List Oper) : List (Nat × Nat) → List (Nat × Oper)
  | [] => []
  | (k, b) :: r => match l[k]? with
    | some o => (b, o) :: pickO l r
    | none => pickO l r

theorem wpTill_of_mix {l : List Oper} (hsel : Region.noSelect l.toArray = true) (hs : Region.sinkB md l.toArray n = true) (hQ : ∀ c a d v w, Q (.panic c) (Act.put a d v) w → Q (.panic c) a w) :
    ∀ (ord : List (Nat × Nat)) (t : Array Bool) (a : Act) (w : World), Deps md l.toArray t → (S w ∨ t.getD n false = true) → mixB md l.toArray n ord t = true →
      wpMix P l.toArray Q S (pickO l ord) a w → wpTill P md l.toArray Q S n ord.length t a w := by
  intro ord
  induction ord with
  | nil => intro t a w _ _ hB h; exact ⟨by simpa [mixB] using hB, h⟩
  | cons p r ih =>
    intro t a w hd hS hB h
    obtain ⟨k, b⟩ := p
    have hkr : k ∈ Region.ready md l.toArray t := by
      match b, hB with
      | 0, hB => simp only [mixB, Bool.and_eq_true] at hB; simpa using hB.1.1.1.1
      | 1, hB => simp only [mixB, Bool.and_eq_true, decide_eq_true_eq] at hB; rw [hB.1]; simp
      | _ + 2, hB => simp only [mixB, Bool.and_eq_true, decide_eq_true_eq] at hB; rw [hB.1.1]; simp
    obtain ⟨_, o, ho, _⟩ := mem_ready.1 hkr
    have ho' : l[k]? = some o := by simpa using ho
    have hd' := hd.step hkr
    simp only [pickO, ho'] at h
    match b, hB, h with
    | 0, hB, h =>
      simp only [mixB, Bool.and_eq_true, decide_eq_true_eq, Bool.not_eq_true'] at hB
      obtain ⟨⟨⟨⟨_, hf⟩, hkn⟩, htn⟩, hB⟩ := hB
      have hSw : S w := by
        rcases hS with h | h
        · exact h
        · rw [htn] at h; cases h
      simp only [wpMix] at h
      by_cases hw : Region.wanted o (yielded l.toArray a.tmps) = true
      · rw [if_pos hw] at h
        obtain ⟨v, hv, h⟩ := h
        exact wpTill_first ho (Region.noSelect_spec hsel) (fun c a w => hQ c a _ v w) hs hkn _ t a w hd htn (Region.free_spec ho hf) hkr (.inl ⟨hw, hv⟩) hSw (ih _ _ _ hd' (.inl hSw) hB h)
      · rw [if_neg hw] at h
        exact wpTill_first ho (Region.noSelect_spec hsel) (fun c a w => hQ c a _ undef w) hs hkn _ t a w hd htn (Region.free_spec ho hf) hkr (.inr ⟨by simpa using hw, rfl⟩) hSw (ih _ _ _ hd' (.inl hSw) hB h)
    | 1, hB, h =>
      simp only [mixB, Bool.and_eq_true, decide_eq_true_eq] at hB
      refine wpTill_alone hB.1 ?_
      unfold wpOp
      simp only [ho]
      simp only [wpMix] at h
      by_cases hw : Region.wanted o (yielded l.toArray a.tmps) = true
      · rw [if_pos hw] at h ⊢
        exact .inl (Oper.wp_mono (fun a' w' h' => ⟨.inl h'.1, ih _ _ _ hd' (.inl h'.1) hB.2 h'.2⟩) h)
      · rw [if_neg hw] at h ⊢
        have hS' : S w ∨ (t.setIfInBounds k true).getD n false = true := hS.imp id getD_set_true
        exact ⟨hS', ih _ _ _ hd' hS' hB.2 h⟩
    | b + 2, hB, h =>
      simp only [mixB, Bool.and_eq_true, decide_eq_true_eq] at hB
      refine wpTill_alone hB.1.1 ?_
      unfold wpOp
      simp only [ho]
      simp only [wpMix] at h
      by_cases hw : Region.wanted o (yielded l.toArray a.tmps) = true
      · rw [if_pos hw] at h ⊢
        exact .inl (Oper.wp_mono (fun a' w' h' => ⟨.inr hB.1.2, ih _ _ _ hd' (.inr hB.1.2) hB.2 h'⟩) h)
      · rw [if_neg hw] at h ⊢
        exact ⟨.inr hB.1.2, ih _ _ _ hd' (.inr hB.1.2) hB.2 h⟩

/-- ONE WALK SERVES EVERY ORDER -/
theorem wp_region_mix {id : Nat} {a : Act} {w : World} {l : List Oper} (ord : List (Nat × Nat)) (n : Nat) (S : World → Prop) (hm : P.follows .mixedOrders = true)
    (hB : (Region.noSelect l.toArray && Region.sinkB .any l.toArray n && decide (ord.length = l.length) && mixB .any l.toArray n ord (Array.replicate l.toArray.size false)) = true)
    (hQ : ∀ c a d v w, Q (.panic c) (Act.put a d v) w → Q (.panic c) a w) (hS : S w.drew) (h : wpMix P l.toArray Q S (pickO l ord) a w.drew) : (Code.region id l.toArray true).wp P Q a w := by
  simp only [Bool.and_eq_true, decide_eq_true_eq] at hB
  obtain ⟨⟨⟨h1, h2⟩, h3⟩, h4⟩ := hB
  refine wp_region_any hm (wpAny_of_till _ _ _ _ (n := n) (S := S) ?_)
  have := wpTill_of_mix (P := P) (S := S) h1 h2 hQ ord _ a w.drew Deps.start (.inl hS) h4 h
  rw [h3] at this
  exact this

theorem mix_take {o : Oper} {r : List (Nat × Oper)} {a : Act} {w : World}
    (h : ∀ K : Act → Prop, (∀ a, wpMix P ops Q S r a w → K a) → if Region.wanted o (yielded ops a.tmps) then ∃ v, (∀ W, S W → (execOp a.eval o).run P W = .ok (.value v) W) ∧ K (a.put o.dst v) else K (a.put o.dst undef)) :
    wpMix P ops Q S ((0, o) :: r) a w := h (fun a => wpMix P ops Q S r a w) (fun _ h => h)
theorem mix_one {o : Oper} {r : List (Nat × Oper)} {a : Act} {w : World}
    (h : ∀ K : Act → World → Prop, (∀ a w, S w → wpMix P ops Q S r a w → K a w) → (S w → if Region.wanted o (yielded ops a.tmps) then o.wp P a w K Q else K (a.put o.dst undef) w)) (hS : S w) :
    wpMix P ops Q S ((1, o) :: r) a w := by
  simp only [wpMix]
  have h2 := h (fun a' w' => S w' ∧ wpMix P ops Q S r a' w') (fun a w h1 h2 => ⟨h1, h2⟩) hS
  by_cases hw : Region.wanted o (yielded ops a.tmps) = true
  · rw [if_pos hw] at h2 ⊢; exact h2
  · rw [if_neg hw] at h2 ⊢; exact h2.2
theorem mix_two {o : Oper} {r : List (Nat × Oper)} {a : Act} {w : World} {b : Nat}
    (h : ∀ K : Act → World → Prop, (∀ a w, wpMix P ops Q S r a w → K a w) → if Region.wanted o (yielded ops a.tmps) then o.wp P a w K Q else K (a.put o.dst undef) w) :
    wpMix P ops Q S ((b + 2, o) :: r) a w := h (wpMix P ops Q S r) (fun _ _ h => h)
end

/-- a later world in which the blocks F may have turned -/
structure XF (F : Nat → Prop) (w : World) where
  val : World
  upd : Upd F w val
instance (F : Nat → Prop) (w : World) : Nonempty (XF F w) := ⟨⟨w, Upd.refl _ w⟩⟩
end Go.Hw
