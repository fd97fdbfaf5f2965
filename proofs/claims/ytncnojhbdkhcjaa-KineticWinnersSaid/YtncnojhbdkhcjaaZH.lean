/- The texts K35 K36 K37, one behind the other. -/
import Derived.Test.YtncnojhbdkhcjaaZF
import Derived.Laws.CopyRow
import Derived.Test.YtncnojhbdkhcjaaZG
/- clear. -/
namespace Go.Proofs.Ytncnojhbdkhcjaa
open Go.RowKit Go.Hw Go
set_option linter.unusedVariables false
set_option linter.unusedSimpArgs false

theorem upd_setRow (w : World) (g : Nat) (cs : Array Value) : Upd (fun k => k = g) w (w.setRow g cs) := by
  refine ⟨rfl, rfl, rfl, by simp [World.setRow], fun k hk hf => ?_⟩
  unfold World.setRow
  simp only [Array.getElem?_modify]
  rw [if_neg (fun e => hf e.symm)]
theorem zero_one (z : Array Value) (hz : ∀ v ∈ z, v.oneCell' = true) (n : Nat) : ∀ v ∈ (Builtin.zeroCells z n).toList, v.oneCell' = true := by
  intro v hv
  unfold Builtin.zeroCells at hv
  simp only [Array.toList_map, List.mem_map, Array.mem_toList_iff] at hv
  obtain ⟨i, hi, rfl⟩ := hv
  by_cases hs : z.size = 0
  · rw [hs] at hi
    simp at hi
  · have hlt : i % z.size < z.size := Nat.mod_lt _ (by omega)
    rw [getElem!_pos z _ hlt]
    exact hz _ (Array.getElem_mem hlt)
theorem clear_row {P : Program} (t ty e : TypeId) (z : Value) (size : Nat) (ht : P.underlying t = some (.slice e)) (hz : ∀ W, (zeroValue e).run P W = .ok z W) (hs : z.cells.size = size) (h1 : ∀ v ∈ z.cells, v.oneCell' = true)
    (w : World) (base : Nat) (v : Value) (n : Nat) (cs : List Value) (h : w.ownsRow base e size v n cs) : ∃ w', (Builtin.clear_ #[t] ty #[v]).run P w = .ok (.tuple #[]) w' ∧ Upd (fun k => v.ownBlock = some k) w w' := by
  rcases h.2 with ⟨rfl, rfl⟩ | ⟨g, cap, cur, rfl, hb, hg, hc, hm, hsz, ht2⟩
  · exact ⟨w, by simp [Builtin.clear_, run_underlying ht, go_sem], Upd.refl _ _⟩
  · cases n with
    | zero => exact ⟨w, by simp [Builtin.clear_, run_underlying ht, go_sem], Upd.refl _ _⟩
    | succ n =>
      have hsize : (Builtin.zeroCells z.cells (n + 1)).size = (n + 1) * size := by simp [Builtin.zeroCells, hs]
      have hle : (n + 1) * size ≤ cur.size := by rw [hsz]; exact Nat.mul_le_mul_right _ hc
      have hr := run_storeCells_at (P := P) g 0 e (Builtin.zeroCells z.cells (n + 1)).toList 0 cur w hg (by rw [Array.length_toList, hsize]; omega) (zero_one _ h1 _)
      obtain ⟨arr, harr⟩ : ∃ arr, (storeCells ⟨g, 0, none⟩ (Builtin.zeroCells z.cells (n + 1)).toList 0).run P w = .ok () (w.setRow g arr) := ⟨_, hr⟩
      refine ⟨w.setRow g arr, ?_, (upd_setRow w g arr).mono (fun k _ e => by rw [e]; rfl)⟩
      unfold Value.cells at harr
      simp [Builtin.clear_, run_underlying ht, go_sem, hz, harr, -Array.toList_map]

end Go.Proofs.Ytncnojhbdkhcjaa

/- Nil lists; made. -/
namespace Go.Proofs.Ytncnojhbdkhcjaa
open Go.RowKit Go.Hw Go
set_option linter.unusedVariables false
set_option linter.unusedSimpArgs false
set_option maxRecDepth 100000 in
set_option maxHeartbeats 2000000 in
theorem orderM_nil (w : World) : Calls Try.prog 25 #[.pointer none] w fun e w' => e = .returned (.slice none 0 0) ∧ Ext w w' := by
  have HZ := Lib.hid (Upd.refl (fun _ => False) w)
  go_enter Try.func25, Try.ntmps25
  go_wp2_with fail
  go_ret
  exact ⟨rfl, HZ.out⟩
set_option maxRecDepth 100000 in
set_option maxHeartbeats 2000000 in
theorem motions_nil (w : World) : Calls Try.prog 29 #[.pointer none] w fun e w' => e = .returned (.slice none 0 0) ∧ Ext w w' := by
  have HZ := Lib.hid (Upd.refl (fun _ => False) w)
  go_enter Try.func29, Try.ntmps29
  go_wp2_with fail
  go_ret
  exact ⟨rfl, HZ.out⟩
set_option maxRecDepth 100000 in
set_option maxHeartbeats 2000000 in
theorem change_nil (w : World) : Calls Try.prog 32 #[.pointer none, .int .i64 0, .int .i64 0] w fun e w' => e = .returned (.int .i64 1) ∧ Ext w w' := by
  have HZ := Lib.hid (Upd.refl (fun _ => False) w)
  go_enter Try.func32, Try.ntmps32
  go_wp2_with fail
  go_ret
  exact ⟨rfl, HZ.out⟩
set_option maxRecDepth 100000 in
set_option maxHeartbeats 2000000 in
theorem winner_nil (w : World) : Calls Try.prog 39 #[.pointer none] w fun e w' => e = .returned (.int .i64 0) ∧ Ext w w' := by
  have HZ := Lib.hid (Upd.refl (fun _ => False) w)
  go_enter Try.func39, Try.ntmps39
  go_wp2_with fail
  go_ret
  exact ⟨rfl, HZ.out⟩
set_option maxRecDepth 100000 in
set_option maxHeartbeats 2000000 in
theorem events_nil (w : World) : Calls Try.prog 41 #[.pointer none] w fun e w' => e = .returned (.int .i64 0) ∧ Ext w w' := by
  have HZ := Lib.hid (Upd.refl (fun _ => False) w)
  go_enter Try.func41, Try.ntmps41
  go_wp2_with fail
  go_ret
  exact ⟨rfl, HZ.out⟩
set_option maxRecDepth 100000 in
set_option maxHeartbeats 2000000 in
theorem now_nil (w : World) : Calls Try.prog 24 #[.pointer none] w fun e w' => e = .returned (.agg #[.int .i64 0, .int .i64 0]) ∧ Ext w w' := by
  go_enter Try.func24, Try.ntmps24
  go_wp2_with fail
  exact bodyPost_ret (v := .agg #[.int .i64 0, .int .i64 0]) (by simp [results, Try.results24, go_sem, *]) rfl ⟨rfl, (Upd.refl (fun _ => False) w).alloc _⟩
set_option maxRecDepth 100000 in
set_option maxHeartbeats 2000000 in
theorem next_nil (w : World) : Calls Try.prog 23 #[.pointer none] w fun e w' => e = .returned (.tuple #[.agg #[.int .i64 0, .int .i64 0, .int .i64 0, .int .i64 0], .int .i64 1]) ∧ Ext w w' := by
  go_enter Try.func23, Try.ntmps23
  go_wp2_with fail
  exact bodyPost_ret (v := .tuple #[.agg #[.int .i64 0, .int .i64 0, .int .i64 0, .int .i64 0], .int .i64 1]) (by simp [results, Try.results23, go_sem, *]) rfl ⟨rfl, (Upd.refl (fun _ => False) w).alloc _⟩
set_option maxRecDepth 100000 in
set_option maxHeartbeats 2000000 in
theorem tadv_nil (m e0 : Int) (w : World) : Calls Try.prog 43 #[.pointer none, .agg #[.int .i64 m, .int .i64 e0]] w fun e w' => e = .returned (.tuple #[.int .i64 0, .int .i64 1]) ∧ Ext w w' := by
  have HZ := Lib.hid ((Upd.refl (fun _ => False) w).alloc (.cells #[.int .i64 m, .int .i64 e0] 25))
  go_enter Try.func43, Try.ntmps43
  go_wp2_with fail
  go_ret2
  exact ⟨rfl, HZ.out⟩
set_option maxRecDepth 100000 in
set_option maxHeartbeats 2000000 in
theorem made_bad (l : List Mo) (S : Nat → Prop) (v : Value) (w : World) (hl2 : l.length ≤ 4611686018427387904) (hR : MoR S w v l) (hS : ∀ k, S k → k < w.heap.size) (hm : mB l = false) :
    Calls Try.prog 21 #[v] w fun e w' => e = .returned (.tuple #[.pointer none, .bool true]) ∧ Ext w w' := by
  have HN := Lib.hid (newlist_bad l S v w hl2 hR hS hm)
  have HRS := Lib.hid (fun W (hW : Ext w W) => rmots_x l S v W (hR.ext hW) hl2)
  rw [hm] at HRS
  obtain ⟨a, cap, rfl⟩ := hR.shape
  clear hR hS
  go_enter Try.func21, Try.ntmps21
  go_wp2_with fail
  refine HN.out.mono ?_
  rintro e w4 ⟨rfl, hw4⟩
  have H4 := Lib.hid hw4
  clear hw4
  go_wp2_with fail
  refine (HRS.out _ H4.out).mono ?_
  rintro e w5 ⟨rfl, hw5⟩
  have H5 := Lib.hid (H4.out.ext hw5)
  clear hw5
  go_wp2_with fail
  go_ret2
  exact ⟨rfl, H5.out⟩
set_option maxRecDepth 100000 in
set_option maxHeartbeats 2000000 in
theorem made_full (l : List Mo) (S : Nat → Prop) (v : Value) (w : World) (hl2 : l.length ≤ 4611686018427387904) (hR : MoR S w v l) (hS : ∀ k, S k → k < w.heap.size) (hm : mB l = true) (hl : 64 < l.length) :
    Calls Try.prog 21 #[v] w fun e w' => e = .returned (.tuple #[.pointer none, .bool true]) ∧ Ext w w' := by
  have HN := Lib.hid (newlist_full l S v w hl2 hR hS hm hl)
  have HRS := Lib.hid (fun W (hW : Ext w W) => rmots_x l S v W (hR.ext hW) hl2)
  rw [hm] at HRS
  obtain ⟨a, cap, rfl⟩ := hR.shape
  clear hR hS
  have t1 : decide ((64 : Int) < (l.length : Int)) = true := decide_eq_true (by omega)
  go_enter Try.func21, Try.ntmps21
  go_wp2_with fail
  refine HN.out.mono ?_
  rintro e w4 ⟨rfl, hw4⟩
  have H4 := Lib.hid hw4
  clear hw4
  go_wp2_with fail
  refine (HRS.out _ H4.out).mono ?_
  rintro e w5 ⟨rfl, hw5⟩
  have H5 := Lib.hid (H4.out.ext hw5)
  clear hw5
  go_wp2_with fail
  go_ret2
  exact ⟨rfl, H5.out⟩
set_option maxRecDepth 100000 in
set_option maxHeartbeats 2000000 in
theorem made_ok (l : List Mo) (S : Nat → Prop) (v : Value) (w : World) (hl2 : l.length ≤ 4611686018427387904) (hR : MoR S w v l) (hS : ∀ k, S k → k < w.heap.size) (hm : mB l = true) (hl : l.length ≤ 64) :
    Calls Try.prog 21 #[v] w fun e w' => ∃ kb mv ov, e = .returned (.tuple #[.pointer (some ⟨kb, 0, none⟩), .bool true]) ∧ LiR w' kb mv ov l 0 1 ∧ (w.heap.size ≤ kb ∧ (∀ g, mv.ownBlock = some g → w.heap.size ≤ g) ∧ ∀ g, ov.ownBlock = some g → w.heap.size ≤ g) ∧ Ext w w' := by
  have HN := Lib.hid (newlist_ok l S v w hl2 hR hS hm hl)
  have HRS := Lib.hid (fun W (hW : Ext w W) => rmots_x l S v W (hR.ext hW) hl2)
  rw [hm] at HRS
  obtain ⟨a, cap, rfl⟩ := hR.shape
  clear hR hS
  have t1 : decide ((64 : Int) < (l.length : Int)) = false := decide_eq_false (by omega)
  go_enter Try.func21, Try.ntmps21
  go_wp2_with fail
  refine HN.out.mono ?_
  rintro e w4 ⟨kb, mv, ov, rfl, hL, hf, hw4⟩
  have H4 := Lib.hid hw4
  have HL4 := Lib.hid (And.intro hL hf)
  clear hw4 hL hf
  go_wp2_with fail
  refine (HRS.out _ H4.out).mono ?_
  rintro e w5 ⟨rfl, hw5⟩
  have H5 := Lib.hid (H4.out.ext hw5)
  have HL5 := Lib.hid (HL4.out.1.ext hw5)
  clear hw5
  go_wp2_with fail
  go_ret2
  exact ⟨kb, mv, ov, rfl, HL5.out, HL4.out.2, H5.out⟩

end Go.Proofs.Ytncnojhbdkhcjaa

/- The law of nil lists. -/
namespace Go.Proofs.Ytncnojhbdkhcjaa
open Go.RowKit Go.Hw Go
set_option linter.unusedVariables false
set_option linter.unusedSimpArgs false

theorem clM (w : World) (base : Nat) (v : Value) (n : Nat) (cs : List Value) (ty : TypeId) (h : w.ownsRow base 23 2 v n cs) : ∃ w', (Builtin.clear_ #[26] ty #[v]).run Try.prog w = .ok (.tuple #[]) w' ∧ Upd (fun k => v.ownBlock = some k) w w' :=
  clear_row _ _ _ (.agg #[.int .i64 0, .int .i64 0]) 2 Try.underlying26 (fun W => by kernel_rfl) rfl (by intro v hv; simp [Value.cells] at hv; rcases hv with rfl | rfl <;> rfl) w base v n cs h
theorem clI (w : World) (base : Nat) (v : Value) (n : Nat) (cs : List Value) (ty : TypeId) (h : w.ownsRow base 3 1 v n cs) : ∃ w', (Builtin.clear_ #[33] ty #[v]).run Try.prog w = .ok (.tuple #[]) w' ∧ Upd (fun k => v.ownBlock = some k) w w' :=
  clear_row _ _ _ (.int .i64 0) 1 Try.underlying33 (fun W => by kernel_rfl) rfl (by intro v hv; simp [Value.cells] at hv; subst hv; rfl) w base v n cs h
theorem clS (w : World) (base : Nat) (v : Value) (n : Nat) (cs : List Value) (ty : TypeId) (h : w.ownsRow base 51 4 v n cs) : ∃ w', (Builtin.clear_ #[48] ty #[v]).run Try.prog w = .ok (.tuple #[]) w' ∧ Upd (fun k => v.ownBlock = some k) w w' :=
  clear_row _ _ _ (.agg #[.int .i64 0, .int .i64 0, .int .i64 0, .int .i64 0]) 4 Try.underlying48 (fun W => by kernel_rfl) rfl (by intro v hv; simp [Value.cells] at hv; rcases hv with rfl | rfl | rfl | rfl <;> rfl) w base v n cs h
set_option maxRecDepth 100000 in
set_option maxHeartbeats 2000000 in
theorem none_x (n d : Int) (l : List Mo) (S : Nat → Prop) (v : Value) (w : World) (hR : MoR S w v l) (hS : ∀ k, S k → k < w.heap.size) :
    Calls Try.prog 8 #[v, .agg #[.int .i64 n, .int .i64 d]] w fun e w' => e = .returned (.bool true) ∧ Ext w w' := by
  have HRL := Lib.hid (And.intro hR hS)
  obtain ⟨a, cap, rfl⟩ := hR.shape
  have HAW := Lib.hid awake_x
  have heq := eqF1
  clear hR hS
  have HZ := Lib.hid ((Upd.refl (fun _ => False) w).alloc (.cells #[.int .i64 n, .int .i64 d] 25))
  have hb0 := alloc0 w (.cells #[.int .i64 n, .int .i64 d] 25)
  have HL : Hid ((w.alloc (.cells #[.int .i64 n, .int .i64 d] 25)).heap.size = w.heap.size + 1) := Lib.hid (by simp)
  have HX : Hid (∀ W, Ext (w.alloc (.cells #[.int .i64 n, .int .i64 d] 25)) W → W.cell? ⟨w.heap.size, 0, none⟩ = some (.int .i64 n) ∧ W.cell? ⟨w.heap.size, 1, none⟩ = some (.int .i64 d)) := Lib.hid (fun W hW => ⟨cellRow (hW.heap hb0 (fun h => h)) 0 _ rfl, cellRow (hW.heap hb0 (fun h => h)) 1 _ rfl⟩)
  clear hb0
  obtain ⟨k00, k01⟩ := HX.out _ (Upd.refl _ _)
  by_cases h12 : 12 < l.length
  · have t1 : decide ((12 : Int) < (l.length : Int)) = true := decide_eq_true (by omega)
    have t1' : decide (12 < l.length) = true := decide_eq_true h12
    go_enter Try.func8, Try.ntmps8
    go_wp2_with fail
    refine (HAW.out _).mono ?_
    rintro e w4 ⟨rfl, hw4⟩
    have H4 := Lib.hid (HZ.out.ext hw4)
    clear hw4
    go_wp2_with fail
    go_ret
    exact ⟨rfl, H4.out⟩
  have t1 : decide ((12 : Int) < (l.length : Int)) = false := decide_eq_false (by omega)
  have t1' : decide (12 < l.length) = false := decide_eq_false h12
  have HRS := Lib.hid (fun W (hW : Ext w W) => rmots_x l S _ W (HRL.out.1.ext hW) (by omega))
  cases hm : mB l
  · rw [hm] at HRS
    go_enter Try.func8, Try.ntmps8
    go_wp2_with fail
    refine (HAW.out _).mono ?_
    rintro e w4 ⟨rfl, hw4⟩
    have H4 := Lib.hid (HZ.out.ext hw4)
    clear hw4
    go_wp2_with fail
    refine (HRS.out _ H4.out).mono ?_
    rintro e w5 ⟨rfl, hw5⟩
    have H5 := Lib.hid (H4.out.ext hw5)
    clear hw5
    go_wp2_with fail
    go_ret
    exact ⟨rfl, H5.out⟩
  rw [hm] at HRS
  have HM := Lib.hid hm
  clear hm
  go_enter Try.func8, Try.ntmps8
  go_wp2_with fail
  refine (HAW.out _).mono ?_
  rintro e w4 ⟨rfl, hw4⟩
  have H4 := Lib.hid hw4
  clear hw4
  go_wp2_with fail
  refine (HRS.out _ (HZ.out.ext H4.out)).mono ?_
  rintro e w5 ⟨rfl, hw5⟩
  have H5 := Lib.hid (H4.out.ext hw5)
  clear hw5
  go_wp2_with fail
  refine (next_nil _).mono ?_
  rintro e w6 ⟨rfl, hw6⟩
  have H6 := Lib.hid ((H5.out.ext hw6).alloc (.cells #[.int .i64 0, .int .i64 0, .int .i64 0, .int .i64 0] 51))
  clear hw6
  clear k00 k01
  obtain ⟨k00, k01⟩ := HX.out _ H6.out
  go_wp2_with fail
  refine (adv_nil _ _ _).mono ?_
  rintro e w7 ⟨rfl, hw7⟩
  have H7 := Lib.hid (H6.out.ext hw7)
  clear hw7
  clear k00 k01
  obtain ⟨k00, k01⟩ := HX.out _ H7.out
  go_wp2_with fail
  refine (tadv_nil _ _ _).mono ?_
  rintro e w8 ⟨rfl, hw8⟩
  have H8 := Lib.hid (H7.out.ext hw8)
  clear hw8 k00 k01
  go_wp2_with fail
  refine (change_nil _).mono ?_
  rintro e w9 ⟨rfl, hw9⟩
  have H9 := Lib.hid (H8.out.ext hw9)
  clear hw9
  go_wp2_with fail
  refine (now_nil _).mono ?_
  rintro e w10 ⟨rfl, hw10⟩
  have H10 := Lib.hid (H9.out.ext hw10)
  clear hw10
  go_wp2_with fail
  refine (orderM_nil _).mono ?_
  rintro e w11 ⟨rfl, hw11⟩
  have H11 := Lib.hid (H10.out.ext hw11)
  clear hw11
  go_wp2_with fail
  refine (certM_nil _).mono ?_
  rintro e w12 ⟨rfl, hw12⟩
  have H12 := Lib.hid (H11.out.ext hw12)
  clear hw12
  go_wp2_with fail
  refine (motions_nil _).mono ?_
  rintro e w13 ⟨rfl, hw13⟩
  have H13 := Lib.hid (H12.out.ext hw13)
  clear hw13
  go_wp2_with fail
  refine (winner_nil _).mono ?_
  rintro e w14 ⟨rfl, hw14⟩
  have H14 := Lib.hid (H13.out.ext hw14)
  clear hw14
  go_wp2_with fail
  refine (events_nil _).mono ?_
  rintro e w15 ⟨rfl, hw15⟩
  have H15 := Lib.hid (H14.out.ext hw15)
  clear hw15
  go_wp2_with fail
  have HW15 := Lib.hid (HZ.out.ext H15.out)
  have HCL := Lib.hid (cloneM_x S _ l.length _ w15 (HRL.out.1.ext HW15.out) (mCells_one l) (by omega))
  clear H4 H5 H6 H7 H8 H9 H10 H11 H12 H13 H14
  refine HCL.out.mono ?_
  rintro e w16 ⟨r16, rfl, hO16, hw16⟩
  have H16 := Lib.hid (HW15.out.ext hw16)
  have HO16 := Lib.hid (own_base hO16 HW15.out.size)
  have HMD := Lib.hid (made_ok l (fun k => k < w16.heap.size) r16 w16 (by omega) ((SlR.of_own hO16).weaken (fun k hk => (hO16.lt k hk).2)) (fun k hk => hk) HM.out (by omega))
  obtain ⟨a16, c16, rfl⟩ := own_shape hO16
  clear hO16 hw16 HCL HW15
  go_wp2_with fail
  refine HMD.out.mono ?_
  rintro e w17 ⟨kb, mv, ov, rfl, hL, ⟨hf1, hf2, hf3⟩, hw17⟩
  have H17 := Lib.hid (H16.out.ext hw17)
  have HL17 := Lib.hid hL
  have hO17 := own_kept HO16.out hw17 (fun _ _ h => h)
  have HF17 := Lib.hid (show (∀ g, (Value.slice a16 l.length c16).ownBlock = some g → g < w16.heap.size ∧ w.heap.size ≤ g) ∧ w16.heap.size ≤ kb ∧ (∀ g, mv.ownBlock = some g → w16.heap.size ≤ g) ∧ (∀ g, ov.ownBlock = some g → w16.heap.size ≤ g) from ⟨fun g hg => ⟨(HO16.out.lt g hg).2, (HO16.out.lt g hg).1⟩, hf1, hf2, hf3⟩)
  obtain ⟨w18, hcl, hu18⟩ := clM w17 _ _ _ _ 0 hO17
  have H18 : Hid (Ext w w18) := Lib.hid (H17.out.trans' hu18 (fun i hi e => by have := (HF17.out.1 i e).2; omega))
  have HL18 : Hid (LiR w18 kb mv ov l 0 1) := Lib.hid (hL.kept hu18 (fun e => by have h1 := (HF17.out.1 _ e).1; have h2 := HF17.out.2.1; omega) (fun g hg e => by have h1 := (HF17.out.1 g e).1; have h2 := HF17.out.2.2.1 g hg; omega) (fun g hg e => by have h1 := (HF17.out.1 g e).1; have h2 := HF17.out.2.2.2 g hg; omega))
  clear hL hf1 hf2 hf3 hw17 hO17 HMD hu18
  go_wp2_with fail
  refine (OrderM_x w18 kb mv ov l 0 1 HL18.out).mono ?_
  rintro e w19 ⟨r19, rfl, hO19, hw19⟩
  obtain ⟨w20, hcl18, hu20⟩ := clI w19 _ _ _ _ 0 hO19
  have H20 : Hid (Ext w w20) := Lib.hid ((H18.out.ext hw19).trans' hu20 (fun i hi e => by have h1 := (hO19.lt i e).1; have h2 := H18.out.size; omega))
  have HL20 : Hid (LiR w20 kb mv ov l 0 1) := Lib.hid ((HL18.out.ext hw19).kept hu20 (fun e => by have h1 := (hO19.lt _ e).1; have h2 := (Array.getElem?_eq_some_iff.1 HL18.out.cell).1; omega) (fun g hg e => by have h1 := (hO19.lt g e).1; have h2 := (HL18.out.mot.lt g hg).2; omega) (fun g hg e => by have h1 := (hO19.lt g e).1; have h2 := (HL18.out.ord.lt g hg).2; omega))
  obtain ⟨a19, c19, rfl⟩ := own_shape hO19
  clear hO19 hw19 hu20
  clear hcl
  go_wp2_with fail
  refine (Motions_x w20 kb mv ov l 0 1 HL20.out).mono ?_
  rintro e w21 ⟨r21, rfl, hO21, hw21⟩
  obtain ⟨w22, hcl20, hu22⟩ := clM w21 _ _ _ _ 0 hO21
  have H22 : Hid (Ext w w22) := Lib.hid ((H20.out.ext hw21).trans' hu22 (fun i hi e => by have h1 := (hO21.lt i e).1; have h2 := H20.out.size; omega))
  have HL22 : Hid (LiR w22 kb mv ov l 0 1) := Lib.hid ((HL20.out.ext hw21).kept hu22 (fun e => by have h1 := (hO21.lt _ e).1; have h2 := (Array.getElem?_eq_some_iff.1 HL20.out.cell).1; omega) (fun g hg e => by have h1 := (hO21.lt g e).1; have h2 := (HL20.out.mot.lt g hg).2; omega) (fun g hg e => by have h1 := (hO21.lt g e).1; have h2 := (HL20.out.ord.lt g hg).2; omega))
  obtain ⟨a21, c21, rfl⟩ := own_shape hO21
  clear hO21 hw21 hu22
  clear hcl18
  go_wp2_with fail
  refine (certM_x w22 kb mv ov l 0 1 HL22.out).mono ?_
  rintro e w23 ⟨r23, rfl, hO23, hw23⟩
  obtain ⟨w24, hcl22, hu24⟩ := clS w23 _ _ _ _ 0 hO23
  have H24 : Hid (Ext w w24) := Lib.hid ((H22.out.ext hw23).trans' hu24 (fun i hi e => by have h1 := (hO23.lt i e).1; have h2 := H22.out.size; omega))
  have HL24 : Hid (LiR w24 kb mv ov l 0 1) := Lib.hid ((HL22.out.ext hw23).kept hu24 (fun e => by have h1 := (hO23.lt _ e).1; have h2 := (Array.getElem?_eq_some_iff.1 HL22.out.cell).1; omega) (fun g hg e => by have h1 := (hO23.lt g e).1; have h2 := (HL22.out.mot.lt g hg).2; omega) (fun g hg e => by have h1 := (hO23.lt g e).1; have h2 := (HL22.out.ord.lt g hg).2; omega))
  obtain ⟨a23, c23, rfl⟩ := own_shape hO23
  clear hO23 hw23 hu24
  clear hcl20
  go_wp2_with fail
  refine (Motions_x w24 kb mv ov l 0 1 HL24.out).mono ?_
  rintro e w25 ⟨r25, rfl, hO25, hw25⟩
  have H25 := Lib.hid (H24.out.ext hw25)
  have HL25 := Lib.hid (HL24.out.ext hw25)
  have HEQ := Lib.hid (eqm_x l l _ S r25 (.slice a l.length cap) w25 ((SlR.of_own hO25).weaken (T := fun _ => True) (fun _ _ => trivial)) (HRL.out.1.ext H25.out) (by omega) (by omega))
  rw [decide_eq_true rfl] at HEQ
  obtain ⟨a25, c25, rfl⟩ := own_shape hO25
  clear hO25 hw25 hcl22
  go_wp2_with fail
  refine HEQ.out.mono ?_
  rintro e w26 ⟨rfl, hw26⟩
  have H26 := Lib.hid (H25.out.ext hw26)
  have HL26 := Lib.hid (HL25.out.ext hw26)
  clear hw26 HEQ
  go_wp2_with fail
  refine (OrderM_x w26 kb mv ov l 0 1 HL26.out).mono ?_
  rintro e w27 ⟨r27, rfl, hO27, hw27⟩
  have H27 := Lib.hid (H26.out.ext hw27)
  have HO27 := Lib.hid hO27
  have HRO := Lib.hid (rorder_x l 0 1 S (.slice a l.length cap) w27 (by omega) HM.out (by decide) (HRL.out.1.ext H27.out) (fun k hk => Nat.lt_of_lt_of_le (HRL.out.2 k hk) H27.out.size))
  obtain ⟨a27, c27, rfl⟩ := own_shape hO27
  clear hO27 hw27
  go_wp2_with fail
  refine HRO.out.mono ?_
  rintro e w28 ⟨r28, rfl, hO28, hw28⟩
  have H28 := Lib.hid (H27.out.ext hw28)
  have HEQ2 := Lib.hid (eqi_x (ordF l 0 1) (ordF l 0 1) _ _ (.slice a27 l.length c27) r28 w28 (IR.own (ordF_len l 0 1) (own_kept HO27.out hw28 (fun _ _ h => h))) (IR.own (ordF_len l 0 1) hO28) (by rw [ordF_len]; omega) (by rw [ordF_len]; omega))
  rw [decide_eq_true rfl] at HEQ2
  obtain ⟨a28, c28, rfl⟩ := own_shape hO28
  clear hO28 hw28 HRO
  go_wp2_with fail
  refine HEQ2.out.mono ?_
  rintro e w29 ⟨rfl, hw29⟩
  have H29 := Lib.hid (H28.out.ext hw29)
  clear hw29
  go_wp2_with fail
  go_ret
  exact ⟨rfl, H29.out⟩

end Go.Proofs.Ytncnojhbdkhcjaa
