/- The texts K25 K26 K27 K28 K29 KP4 K30 K31 K32, one behind the other. -/
import Derived.Test.YtncnojhbdkhcjaaZE
import Derived.BigQuiet
/- The list in memory. -/
namespace Go.Proofs.Ytncnojhbdkhcjaa
open Go.RowKit Go.Hw
set_option linter.unusedVariables false
set_option linter.unusedSimpArgs false

theorem info23 : (Try.prog.info? 23).map (fun i => (i.zero, i.size, i.bytes)) = some (some (.agg #[.int .i64 0, .int .i64 0]), 2, 16) := by kernel_rfl
theorem info3' : (Try.prog.info? 3).map (fun i => (i.zero, i.size, i.bytes)) = some (some (.int .i64 0), 1, 8) := by kernel_rfl
set_option maxRecDepth 100000 in
set_option maxHeartbeats 2000000 in
theorem cloneM_x (S : Nat → Prop) (v : Value) (n : Nat) (cs : List Value) (w : World) (hR : SlR S w 2 v n cs) (h1 : ∀ u ∈ cs, u.oneCell' = true) (hn : n ≤ 1000000) :
    Calls Try.prog 44 #[v] w fun e w' => ∃ r, e = .returned r ∧ w'.ownsRow w.heap.size 23 2 r n cs ∧ Ext w w' := by
  have q22 : ∀ (w : World) (a : Option Addr) (n c n' c' : Nat), (binOp .eql 26 (.slice a n c) (.slice none n' c')).run Try.prog w = .ok (.bool a.isNone) w := fun w a n c n' c' => Lib.run_eql_slice_nil w _ _ a n c n' c' Try.underlying26
  obtain ⟨hlen, ⟨rfl, rfl⟩ | ⟨ad, cap, rfl, hcap, hg, hj⟩⟩ := hR
  · obtain rfl : cs = [] := List.eq_nil_of_length_eq_zero (by omega)
    have hrf := Lib.hid (Upd.refl (fun _ => False) w)
    go_enter Try.func44, Try.ntmps44
    go_wp2_with fail
    go_ret
    exact ⟨_, rfl, World.ownsRow_nil _ _ _ _, hrf.out⟩
  · obtain ⟨iS, hi, hz0, hz1, hz2⟩ := info_parts info23
    have hR2 : SlR S (w.alloc (.cells #[] 23)) 2 (.slice (some ad) n cap) n cs := SlR.kept ⟨hlen, .inr ⟨ad, cap, rfl, hcap, hg, hj⟩⟩ ((Upd.refl (fun _ => False) w).alloc _) (fun _ _ h => h)
    have hO0 : (w.alloc (.cells #[] 23)).ownsRow w.heap.size 23 2 (.slice (some ⟨w.heap.size, 0, none⟩) 0 0) 0 [] := by
      have := World.ownsRow_lit (base := w.heap.size) (e := 23) (size := 2) w #[] 0 (by simp) (by unfold maxLen; omega) (by simp)
      exact this
    have hb : w.heap.size ≤ (w.alloc (.cells #[] 23)).heap.size := by simp
    clear hj hg
    have HZ := Lib.hid ((Upd.refl (fun _ => False) w).alloc (.cells #[] 23))
    go_enter Try.func44, Try.ntmps44
    go_wp2_with (at_builtin; refine wpList_append_sl _ rfl (.tmp 5) (.tmp 6) 26 rfl w.heap.size 23 iS (.agg #[.int .i64 0, .int .i64 0]) 2 16 Try.underlying26 hi hz0 hz1 hz2 rfl (by decide) (.slice (some ⟨w.heap.size, 0, none⟩) 0 0) 0 [] rfl hO0 S (.slice (some ad) n cap) n cs rfl hR2 h1 ?c3 ?c4 hb ?_)
    case c3 => unfold maxLen; omega
    case c4 => omega
    intro v5 w5 hG
    have HO5 := Lib.hid hG.own
    have HE5 : Hid (Ext w w5) := Lib.hid (upd_grown_new HZ.out hG.grown (fun k e => (hO0.lt k e).1))
    obtain ⟨a5, c5, hv5⟩ := own_shape HO5.out
    subst hv5
    clear hG hO0 hR2 hb
    go_wp2_with fail
    go_ret
    exact ⟨_, rfl, HO5.out, HE5.out⟩
set_option maxRecDepth 100000 in
set_option maxHeartbeats 2000000 in
theorem cloneI_x (S : Nat → Prop) (v : Value) (n : Nat) (cs : List Value) (w : World) (hR : SlR S w 1 v n cs) (h1 : ∀ u ∈ cs, u.oneCell' = true) (hn : n ≤ 1000000) :
    Calls Try.prog 56 #[v] w fun e w' => ∃ r, e = .returned r ∧ w'.ownsRow w.heap.size 3 1 r n cs ∧ Ext w w' := by
  have q22 : ∀ (w : World) (a : Option Addr) (n c n' c' : Nat), (binOp .eql 33 (.slice a n c) (.slice none n' c')).run Try.prog w = .ok (.bool a.isNone) w := fun w a n c n' c' => Lib.run_eql_slice_nil w _ _ a n c n' c' Try.underlying33
  obtain ⟨hlen, ⟨rfl, rfl⟩ | ⟨ad, cap, rfl, hcap, hg, hj⟩⟩ := hR
  · obtain rfl : cs = [] := List.eq_nil_of_length_eq_zero (by omega)
    have hrf := Lib.hid (Upd.refl (fun _ => False) w)
    go_enter Try.func56, Try.ntmps56
    go_wp2_with fail
    go_ret
    exact ⟨_, rfl, World.ownsRow_nil _ _ _ _, hrf.out⟩
  · obtain ⟨iS, hi, hz0, hz1, hz2⟩ := info_parts info3'
    have hR2 : SlR S (w.alloc (.cells #[] 3)) 1 (.slice (some ad) n cap) n cs := SlR.kept ⟨hlen, .inr ⟨ad, cap, rfl, hcap, hg, hj⟩⟩ ((Upd.refl (fun _ => False) w).alloc _) (fun _ _ h => h)
    have hO0 : (w.alloc (.cells #[] 3)).ownsRow w.heap.size 3 1 (.slice (some ⟨w.heap.size, 0, none⟩) 0 0) 0 [] := by
      have := World.ownsRow_lit (base := w.heap.size) (e := 3) (size := 1) w #[] 0 (by simp) (by unfold maxLen; omega) (by simp)
      exact this
    have hb : w.heap.size ≤ (w.alloc (.cells #[] 3)).heap.size := by simp
    clear hj hg
    have HZ := Lib.hid ((Upd.refl (fun _ => False) w).alloc (.cells #[] 3))
    go_enter Try.func56, Try.ntmps56
    go_wp2_with (at_builtin; refine wpList_append_sl _ rfl (.tmp 5) (.tmp 6) 33 rfl w.heap.size 3 iS (.int .i64 0) 1 8 Try.underlying33 hi hz0 hz1 hz2 rfl (by decide) (.slice (some ⟨w.heap.size, 0, none⟩) 0 0) 0 [] rfl hO0 S (.slice (some ad) n cap) n cs rfl hR2 h1 ?c3 ?c4 hb ?_)
    case c3 => unfold maxLen; omega
    case c4 => omega
    intro v5 w5 hG
    have HO5 := Lib.hid hG.own
    have HE5 : Hid (Ext w w5) := Lib.hid (upd_grown_new HZ.out hG.grown (fun k e => (hO0.lt k e).1))
    obtain ⟨a5, c5, hv5⟩ := own_shape HO5.out
    subst hv5
    clear hG hO0 hR2 hb
    go_wp2_with fail
    go_ret
    exact ⟨_, rfl, HO5.out, HE5.out⟩

theorem mCells_one (l : List Mo) : ∀ u ∈ mCells l, u.oneCell' = true := by
  intro u hu
  unfold mCells at hu
  rw [List.mem_flatMap] at hu
  obtain ⟨m, _, h⟩ := hu
  simp at h
  rcases h with rfl | rfl <;> rfl
theorem iCells_one (l : List Nat) : ∀ u ∈ iCells l, u.oneCell' = true := by
  intro u hu
  unfold iCells at hu
  rw [List.mem_map] at hu
  obtain ⟨m, _, rfl⟩ := hu
  rfl
/-- a list of moving points in memory -/
structure LiR (w : World) (kb : Nat) (mv ov : Value) (l : List Mo) (n d : Int) : Prop where
  cell : w.heap[kb]? = some (.cells #[mv, .int .i64 n, .int .i64 d, ov] 96 (0, 0))
  mot : w.ownsRow 0 23 2 mv l.length (mCells l)
  ord : w.ownsRow 0 3 1 ov l.length (iCells (ordF l n d))
  mne : mv.ownBlock ≠ some kb
  one : ov.ownBlock ≠ some kb
  mo : ∀ g, mv.ownBlock = some g → ov.ownBlock ≠ some g
  okm : mB l = true
  okt : vfB n d = true
  pos : 0 ≤ n
  len : l.length ≤ 64
theorem LiR.kept {F : Nat → Prop} {w w' : World} {kb : Nat} {mv ov : Value} {l : List Mo} {n d : Int} (h : LiR w kb mv ov l n d) (hu : Upd F w w') (h1 : ¬ F kb) (h2 : ∀ g, mv.ownBlock = some g → ¬ F g) (h3 : ∀ g, ov.ownBlock = some g → ¬ F g) : LiR w' kb mv ov l n d :=
  ⟨hu.heap h.cell h1, own_kept h.mot hu h2, own_kept h.ord hu h3, h.mne, h.one, h.mo, h.okm, h.okt, h.pos, h.len⟩
theorem LiR.ext {w w' : World} {kb : Nat} {mv ov : Value} {l : List Mo} {n d : Int} (h : LiR w kb mv ov l n d) (hu : Ext w w') : LiR w' kb mv ov l n d :=
  h.kept hu (fun h => h) (fun _ _ h => h) (fun _ _ h => h)
theorem LiR.mor {w : World} {kb : Nat} {mv ov : Value} {l : List Mo} {n d : Int} (h : LiR w kb mv ov l n d) : MoR (fun k => k < w.heap.size) w mv l := (SlR.of_own h.mot).weaken (fun k hk => (h.mot.lt k hk).2)
theorem Now_x (w : World) (kb : Nat) (mv ov : Value) (l : List Mo) (n d : Int) (h : LiR w kb mv ov l n d) : Calls Try.prog 24 #[.pointer (some ⟨kb, 0, none⟩)] w fun e w' => e = .returned (.agg #[.int .i64 n, .int .i64 d]) ∧ Ext w w' := by
  have hA := allocOld h.cell (.cells #[.int .i64 0, .int .i64 0] 25)
  have c1 := cellRow hA 1 (.int .i64 n) rfl
  have c2 := cellRow hA 2 (.int .i64 d) rfl
  have HZ := Lib.hid ((Upd.refl (fun _ => False) w).alloc (.cells #[.int .i64 0, .int .i64 0] 25))
  have hle : w.heap.size ≤ w.heap.size := Nat.le_refl _
  clear h hA
  go_enter Try.func24, Try.ntmps24
  go_wp2_with fail
  exact bodyPost_ret (v := .agg #[.int .i64 n, .int .i64 d]) (by simp [results, Try.results24, go_sem, *]) rfl ⟨rfl, (Upd.refl (fun _ => False) w).alloc _⟩
theorem OrderM_x (w : World) (kb : Nat) (mv ov : Value) (l : List Mo) (n d : Int) (h : LiR w kb mv ov l n d) : Calls Try.prog 25 #[.pointer (some ⟨kb, 0, none⟩)] w fun e w' => ∃ r, e = .returned r ∧ w'.ownsRow w.heap.size 3 1 r l.length (iCells (ordF l n d)) ∧ Ext w w' := by
  have c3 := cellRow h.cell 3 ov rfl
  have HC := Lib.hid (cloneI_x _ ov l.length _ w (SlR.of_own h.ord) (iCells_one _) (by have := h.len; omega))
  obtain ⟨a, c, rfl⟩ := own_shape h.ord
  clear h
  go_enter Try.func25, Try.ntmps25
  go_wp2_with fail
  refine HC.out.mono ?_
  rintro e w4 ⟨r, rfl, hO, hE⟩
  have H4 := Lib.hid (And.intro hO hE)
  obtain ⟨a4, c4, hv4⟩ := own_shape hO
  subst hv4
  clear hO hE
  go_wp2_with fail
  go_ret
  exact ⟨_, rfl, H4.out.1, H4.out.2⟩
theorem Motions_x (w : World) (kb : Nat) (mv ov : Value) (l : List Mo) (n d : Int) (h : LiR w kb mv ov l n d) : Calls Try.prog 29 #[.pointer (some ⟨kb, 0, none⟩)] w fun e w' => ∃ r, e = .returned r ∧ w'.ownsRow w.heap.size 23 2 r l.length (mCells l) ∧ Ext w w' := by
  have c0 := cellRow h.cell 0 mv rfl
  have HC := Lib.hid (cloneM_x _ mv l.length _ w (SlR.of_own h.mot) (mCells_one _) (by have := h.len; omega))
  obtain ⟨a, c, rfl⟩ := own_shape h.mot
  clear h
  go_enter Try.func29, Try.ntmps29
  go_wp2_with fail
  refine HC.out.mono ?_
  rintro e w4 ⟨r, rfl, hO, hE⟩
  have H4 := Lib.hid (And.intro hO hE)
  obtain ⟨a4, c4, hv4⟩ := own_shape hO
  subst hv4
  clear hO hE
  go_wp2_with fail
  go_ret
  exact ⟨_, rfl, H4.out.1, H4.out.2⟩

end Go.Proofs.Ytncnojhbdkhcjaa

/- certificate. -/
namespace Go.Proofs.Ytncnojhbdkhcjaa
open Go.RowKit Go.Hw Go
set_option linter.unusedVariables false
set_option linter.unusedSimpArgs false
set_option maxRecDepth 100000 in
set_option maxHeartbeats 2000000 in
theorem certificate_x (w : World) (kb : Nat) (mv ov : Value) (l : List Mo) (n d : Int) (i : Nat) (h : LiR w kb mv ov l n d) (hi : i + 1 < l.length) :
    Calls Try.prog 57 #[.pointer (some ⟨kb, 0, none⟩), .int .i64 i] w fun e w' => (match certAt l n d i with
      | some x => e = .returned (.tuple #[.agg #[.int .i64 x.1, .int .i64 x.2.1, .int .i64 x.2.2.1, .int .i64 x.2.2.2], .bool true])
      | none => ∃ v0 v1 v2 v3, e = .returned (.tuple #[.agg #[.int .i64 v0, .int .i64 v1, .int .i64 v2, .int .i64 v3], .bool false])) ∧ Ext w w' := by
  have HR := Lib.hid h
  obtain ⟨gm, cm, rfl⟩ := own_some h.mot (by omega)
  obtain ⟨go, co, rfl⟩ := own_some h.ord (by omega)
  have hA := allocOld h.cell (.cells #[.int .i64 0, .int .i64 0, .int .i64 0, .int .i64 0] 51)
  have c0 := cellRow hA 0 (.slice (some ⟨gm, 0, none⟩) l.length cm) rfl
  have c1 := cellRow hA 1 (.int .i64 n) rfl
  have c2 := cellRow hA 2 (.int .i64 d) rfl
  have c3 := cellRow hA 3 (.slice (some ⟨go, 0, none⟩) l.length co) rfl
  have hoA := World.ownsRow.alloc h.ord (.cells #[.int .i64 0, .int .i64 0, .int .i64 0, .int .i64 0] 51)
  have o0 := own_cell hoA i (by omega)
  rw [iCells_at _ _ (by rw [ordF_len]; omega)] at o0
  have o1 := own_cell hoA (i + 1) (by omega)
  rw [iCells_at _ _ (by rw [ordF_len]; omega)] at o1
  have hA1 := ordF_at_lt l n d i (by omega)
  have hB1 := ordF_at_lt l n d (i + 1) hi
  have hmA := (h.mor).ext ((Upd.refl (fun _ => False) w).alloc (.cells #[.int .i64 0, .int .i64 0, .int .i64 0, .int .i64 0] 51))
  obtain ⟨p0, p1⟩ := hmA.cells hA1
  obtain ⟨q0, q1⟩ := hmA.cells hB1
  clear hmA hoA hA h
  cases hC : meetB (mg l ((ordF l n d).getD i 0)) (mg l ((ordF l n d).getD (i + 1) 0)) n d
  · have HMT := Lib.hid (fun W => kmeet_no (mg l ((ordF l n d).getD i 0)) (mg l ((ordF l n d).getD (i + 1) 0)) n d W (mB_at HR.out.okm _) (mB_at HR.out.okm _) HR.out.okt hC)
    have HCP : Hid (certAt l n d i = none) := Lib.hid (by unfold certAt; rw [hC]; rfl)
    rw [HCP.out]
    clear hC HCP
    generalize (ordF l n d).getD i 0 = A at *
    generalize (ordF l n d).getD (i + 1) 0 = B at *
    generalize (mg l A).1 = u0 at *
    generalize (mg l A).2 = u1 at *
    generalize (mg l B).1 = v0 at *
    generalize (mg l B).2 = v1 at *
    simp only [Nat.zero_add] at p0 p1 q0 q1
    have hl64 := HR.out.len
    have i0 : (0 : Int) ≤ (i : Int) := by omega
    have i1 : (i : Int) + 1 < (l.length : Int) := by omega
    have i2 : (i : Int) < (l.length : Int) := by omega
    have j0 : (0 : Int) ≤ (A : Int) := by omega
    have j1 : (A : Int) < (l.length : Int) := by omega
    have j2 : (0 : Int) ≤ (B : Int) := by omega
    have j3 : (B : Int) < (l.length : Int) := by omega
    have H0 := Lib.hid ((Upd.refl (fun _ => False) w).alloc (.cells #[.int .i64 0, .int .i64 0, .int .i64 0, .int .i64 0] 51))
    have HB0 := Lib.hid (alloc0 w (.cells #[.int .i64 0, .int .i64 0, .int .i64 0, .int .i64 0] 51))
    have HS0 : Hid (w.heap.size < (w.alloc (.cells #[.int .i64 0, .int .i64 0, .int .i64 0, .int .i64 0] 51)).heap.size) := Lib.hid (by simp)
    go_enter Try.func57, Try.ntmps57
    go_wp2_with fail
    generalize (w.alloc (.cells #[.int .i64 0, .int .i64 0, .int .i64 0, .int .i64 0] 51)) = w1 at *
    go_quiet (fail)
    go_wp2_with fail
    have xc0 := fun x : XW (w1.drewN nq) => x.ext.cell (w := w1.drewN nq) c0 (fun h => h)
    have xc1 := fun x : XW (w1.drewN nq) => x.ext.cell (w := w1.drewN nq) c1 (fun h => h)
    have xc2 := fun x : XW (w1.drewN nq) => x.ext.cell (w := w1.drewN nq) c2 (fun h => h)
    have xc3 := fun x : XW (w1.drewN nq) => x.ext.cell (w := w1.drewN nq) c3 (fun h => h)
    have xo0 := fun x : XW (w1.drewN nq) => x.ext.cell (w := w1.drewN nq) o0 (fun h => h)
    have xo1 := fun x : XW (w1.drewN nq) => x.ext.cell (w := w1.drewN nq) o1 (fun h => h)
    have xp0 := fun x : XW (w1.drewN nq) => x.ext.cell (w := w1.drewN nq) p0 (fun h => h)
    have xp1 := fun x : XW (w1.drewN nq) => x.ext.cell (w := w1.drewN nq) p1 (fun h => h)
    have xq0 := fun x : XW (w1.drewN nq) => x.ext.cell (w := w1.drewN nq) q0 (fun h => h)
    have xq1 := fun x : XW (w1.drewN nq) => x.ext.cell (w := w1.drewN nq) q1 (fun h => h)
    refine wp_region_parF (α := Nat) 23 [21] 24 [(23, 1), (24, 2)] [[], [0], [0, 1], [0, 1, 2], [], [0, 1, 2, 3, 4], [0, 1, 2, 3, 4, 5], [], [7], [7, 8], [7, 8, 9], [], [7, 8, 9, 10, 11], [7, 8, 9, 10, 11, 12], [], [14], [14, 15], [14, 15, 16], [0, 1, 2, 3, 4, 5, 6, 7, 8, 9, 10, 11, 12, 13, 14, 15, 16, 17], [0, 1, 2, 3, 4, 5, 6, 7, 8, 9, 10, 11, 12, 13, 14, 15, 16, 17, 18], [0, 1, 2, 3, 4, 5, 6, 7, 8, 9, 10, 11, 12, 13, 14, 15, 16, 17, 18, 19], [0, 1, 2, 3, 4, 5, 6, 7, 8, 9, 10, 11, 12, 13, 14, 15, 16, 17, 18, 19], [], [0, 1, 2, 3, 4, 5, 6, 7, 8, 9, 10, 11, 12, 13, 14, 15, 16, 17, 18, 19, 20, 22], [0, 1, 2, 3, 4, 5, 6, 7, 8, 9, 10, 11, 12, 13, 14, 15, 16, 17, 18, 19, 20, 21, 22, 23]]
      [none, none, none, none, none, none, none, none, none, none, none, none, none, none, none, none, none, none, some (annVal (.tuple #[.agg #[.int .i64 0, .int .i64 0], .bool false])), none, none, none, some (annBlk (fun g => .pointer (some ⟨g, 0, none⟩)) (fun g => g) w1.heap.size (.cells #[.int .i64 0, .int .i64 0] 25))]
      [false, false, false, false, false, false, false, false, false, false, false, false, false, false, false, false, false, false, true, false, false, false, true] (by kernel_rfl) (by kernel_rfl) rfl (fun _ _ d _ _ h => by cases d <;> exact h) ?_
    simp only [List.take_succ_cons, List.take_zero, pickO, List.getElem?_cons_zero, List.getElem?_cons_succ]
    refine can_pure0 rfl (fun K hK => ?_); go_simp; refine hK _ ?_; clear hK K
    refine can_pure0 rfl (fun K hK => ?_); go_simp; refine hK _ ?_; clear hK K
    refine can_pure0 rfl (fun K hK => ?_); go_simp; refine hK _ ?_; clear hK K
    refine can_pure0 rfl (fun K hK => ?_); go_simp; refine hK _ ?_; clear hK K
    refine can_pure0 rfl (fun K hK => ?_); go_simp; refine hK _ ?_; clear hK K
    refine can_pure0 rfl (fun K hK => ?_); go_simp; refine hK _ ?_; clear hK K
    refine can_pure0 rfl (fun K hK => ?_); go_simp; refine hK _ ?_; clear hK K
    refine can_pure0 rfl (fun K hK => ?_); go_simp; refine hK _ ?_; clear hK K
    refine can_pure0 rfl (fun K hK => ?_); go_simp; refine hK _ ?_; clear hK K
    refine can_pure0 rfl (fun K hK => ?_); go_simp; refine hK _ ?_; clear hK K
    refine can_pure0 rfl (fun K hK => ?_); go_simp; refine hK _ ?_; clear hK K
    refine can_pure0 rfl (fun K hK => ?_); go_simp; refine hK _ ?_; clear hK K
    refine can_pure0 rfl (fun K hK => ?_); go_simp; refine hK _ ?_; clear hK K
    refine can_pure0 rfl (fun K hK => ?_); go_simp; refine hK _ ?_; clear hK K
    refine can_pure0 rfl (fun K hK => ?_); go_simp; refine hK _ ?_; clear hK K
    refine can_pure0 rfl (fun K hK => ?_); go_simp; refine hK _ ?_; clear hK K
    refine can_pure0 rfl (fun K hK => ?_); go_simp; refine hK _ ?_; clear hK K
    refine can_pure0 rfl (fun K hK => ?_); go_simp; refine hK _ ?_; clear hK K
    refine can_mem _ rfl (by go_simp) (fun W hW hG K hK => ?_) (fun K x9 hK => ?_)
    · go_simp
      refine (HMT.out W).mono ?_
      rintro e w' ⟨rfl, h⟩
      exact hK default w' h trivial
    refine hK _ ?_; clear hK K
    dsimp only [annVal]
    refine can_pure0 rfl (fun K hK => ?_); go_simp; refine hK _ ?_; clear hK K
    refine can_pure0 rfl (fun K hK => ?_); go_simp; refine hK _ ?_; clear hK K
    refine can_pure0 rfl (fun K hK => ?_); go_simp; refine hK _ ?_; clear hK K
    refine can_mem _ rfl (by go_simp) (fun W hW hG K hK => ?_) (fun K g9 hK => ?_)
    · go_simp
      exact hK W.heap.size _ ((Upd.refl _ W).alloc _) ⟨hW.size, alloc0 _ _⟩
    refine hK _ ?_; clear hK K
    dsimp only [annBlk]
    refine can_end (fun w8 hW hG => ?_)
    obtain ⟨hb9, hg9⟩ := hG _ (List.mem_append_right _ (List.mem_singleton.2 rfl))
    clear hG
    have H8 : Hid (Ext w1 w8) := Lib.hid (hW.ofDrewN)
    have m0 := frozenRow hg9 0
    have m1 := frozenRow hg9 1
    have cc0 := cellRow hg9 0 (.int .i64 0) rfl
    have cc1 := cellRow hg9 1 (.int .i64 0) rfl
    have HG9 := Lib.hid (And.intro hb9 hg9)
    clear hW hg9 hb9
    refine mix_one (fun K hK _ => ?_) trivial; go_simp; refine hK _ _ trivial ?_; clear hK K
    refine mix_two (fun K hK => ?_); go_simp; refine hK _ _ ?_; clear hK K
    simp only [wpMix]
    clear xc0 xc1 xc2 xc3 xo0 xo1 xp0 xp1 xq0 xq1
    have HE8 : Hid (Ext w w8) := Lib.hid (H0.out.ext H8.out)
    have hs9 : w.heap.size < g9 := by have h1 := HG9.out.1; have h2 := HS0.out; omega
    have hs9' : w.heap.size ≤ g9 := by omega
    have HE9 : Hid (Ext w ((w8.setCell ⟨g9, 0, none⟩ (.int .i64 0)).setCell ⟨g9, 1, none⟩ (.int .i64 0))) := Lib.hid ((HE8.out.setNew hs9' _).setNew hs9' _)
    have hb9 := setBlock (setBlock HG9.out.2 0 (.int .i64 0)) 1 (.int .i64 0)
    have c90 := cellRow hb9 0 (.int .i64 0) rfl
    have c91 := cellRow hb9 1 (.int .i64 0) rfl
    have hz8 := ((Upd.refl (fun k => k = g9) w8).setCell (p := ⟨g9, 0, none⟩) (.inl rfl) (.int .i64 0)).setCell (p := ⟨g9, 1, none⟩) (.inl rfl) (.int .i64 0)
    have hz9 := hz8.heap (H8.out.heap HB0.out (fun h => h)) (by omega)
    have n0 := frozenRow hz9 0
    have n1 := frozenRow hz9 1
    have n2 := frozenRow hz9 2
    have n3 := frozenRow hz9 3
    have z0 := cellRow hz9 0 (.int .i64 0) rfl
    have z1 := cellRow hz9 1 (.int .i64 0) rfl
    have z2 := cellRow hz9 2 (.int .i64 0) rfl
    have z3 := cellRow hz9 3 (.int .i64 0) rfl
    clear hb9 hz8 hz9 m0 m1 cc0 cc1
    generalize ((w8.setCell ⟨g9, 0, none⟩ (.int .i64 0)).setCell ⟨g9, 1, none⟩ (.int .i64 0)) = w9 at *
    go_wp2_with fail
    refine bodyPost_ret (v := .tuple #[.agg #[.int .i64 0, .int .i64 0, .int .i64 A, .int .i64 B], .bool false]) (by simp [results, Try.results57, go_sem, *]) rfl ⟨⟨_, _, _, _, rfl⟩, upd_set4 HE9.out (.inr (Nat.le_refl _)) _ _ _ _ _ _ _ _⟩
  · have HMT := Lib.hid (fun W => kmeet_yes (mg l ((ordF l n d).getD i 0)) (mg l ((ordF l n d).getD (i + 1) 0)) n d W (mB_at HR.out.okm _) (mB_at HR.out.okm _) HR.out.okt hC)
    have HCP : Hid (certAt l n d i = some (mtN (mg l ((ordF l n d).getD i 0)) (mg l ((ordF l n d).getD (i + 1) 0)), mtD (mg l ((ordF l n d).getD i 0)) (mg l ((ordF l n d).getD (i + 1) 0)), (((ordF l n d).getD i 0 : Nat) : Int), (((ordF l n d).getD (i + 1) 0 : Nat) : Int))) := Lib.hid (by unfold certAt; rw [hC]; rfl)
    rw [HCP.out]
    clear hC HCP
    generalize (ordF l n d).getD i 0 = A at *
    generalize (ordF l n d).getD (i + 1) 0 = B at *
    generalize mtN (mg l A) (mg l B) = X at *
    generalize mtD (mg l A) (mg l B) = Y at *
    generalize (mg l A).1 = u0 at *
    generalize (mg l A).2 = u1 at *
    generalize (mg l B).1 = v0 at *
    generalize (mg l B).2 = v1 at *
    simp only [Nat.zero_add] at p0 p1 q0 q1
    have hl64 := HR.out.len
    have i0 : (0 : Int) ≤ (i : Int) := by omega
    have i1 : (i : Int) + 1 < (l.length : Int) := by omega
    have i2 : (i : Int) < (l.length : Int) := by omega
    have j0 : (0 : Int) ≤ (A : Int) := by omega
    have j1 : (A : Int) < (l.length : Int) := by omega
    have j2 : (0 : Int) ≤ (B : Int) := by omega
    have j3 : (B : Int) < (l.length : Int) := by omega
    have H0 := Lib.hid ((Upd.refl (fun _ => False) w).alloc (.cells #[.int .i64 0, .int .i64 0, .int .i64 0, .int .i64 0] 51))
    have HB0 := Lib.hid (alloc0 w (.cells #[.int .i64 0, .int .i64 0, .int .i64 0, .int .i64 0] 51))
    have HS0 : Hid (w.heap.size < (w.alloc (.cells #[.int .i64 0, .int .i64 0, .int .i64 0, .int .i64 0] 51)).heap.size) := Lib.hid (by simp)
    go_enter Try.func57, Try.ntmps57
    go_wp2_with fail
    generalize (w.alloc (.cells #[.int .i64 0, .int .i64 0, .int .i64 0, .int .i64 0] 51)) = w1 at *
    go_quiet (fail)
    go_wp2_with fail
    have xc0 := fun x : XW (w1.drewN nq) => x.ext.cell (w := w1.drewN nq) c0 (fun h => h)
    have xc1 := fun x : XW (w1.drewN nq) => x.ext.cell (w := w1.drewN nq) c1 (fun h => h)
    have xc2 := fun x : XW (w1.drewN nq) => x.ext.cell (w := w1.drewN nq) c2 (fun h => h)
    have xc3 := fun x : XW (w1.drewN nq) => x.ext.cell (w := w1.drewN nq) c3 (fun h => h)
    have xo0 := fun x : XW (w1.drewN nq) => x.ext.cell (w := w1.drewN nq) o0 (fun h => h)
    have xo1 := fun x : XW (w1.drewN nq) => x.ext.cell (w := w1.drewN nq) o1 (fun h => h)
    have xp0 := fun x : XW (w1.drewN nq) => x.ext.cell (w := w1.drewN nq) p0 (fun h => h)
    have xp1 := fun x : XW (w1.drewN nq) => x.ext.cell (w := w1.drewN nq) p1 (fun h => h)
    have xq0 := fun x : XW (w1.drewN nq) => x.ext.cell (w := w1.drewN nq) q0 (fun h => h)
    have xq1 := fun x : XW (w1.drewN nq) => x.ext.cell (w := w1.drewN nq) q1 (fun h => h)
    refine wp_region_parF (α := Nat) 23 [21] 24 [(23, 1), (24, 2)] [[], [0], [0, 1], [0, 1, 2], [], [0, 1, 2, 3, 4], [0, 1, 2, 3, 4, 5], [], [7], [7, 8], [7, 8, 9], [], [7, 8, 9, 10, 11], [7, 8, 9, 10, 11, 12], [], [14], [14, 15], [14, 15, 16], [0, 1, 2, 3, 4, 5, 6, 7, 8, 9, 10, 11, 12, 13, 14, 15, 16, 17], [0, 1, 2, 3, 4, 5, 6, 7, 8, 9, 10, 11, 12, 13, 14, 15, 16, 17, 18], [0, 1, 2, 3, 4, 5, 6, 7, 8, 9, 10, 11, 12, 13, 14, 15, 16, 17, 18, 19], [0, 1, 2, 3, 4, 5, 6, 7, 8, 9, 10, 11, 12, 13, 14, 15, 16, 17, 18, 19], [], [0, 1, 2, 3, 4, 5, 6, 7, 8, 9, 10, 11, 12, 13, 14, 15, 16, 17, 18, 19, 20, 22], [0, 1, 2, 3, 4, 5, 6, 7, 8, 9, 10, 11, 12, 13, 14, 15, 16, 17, 18, 19, 20, 21, 22, 23]]
      [none, none, none, none, none, none, none, none, none, none, none, none, none, none, none, none, none, none, some (annVal (.tuple #[.agg #[.int .i64 X, .int .i64 Y], .bool true])), none, none, none, some (annBlk (fun g => .pointer (some ⟨g, 0, none⟩)) (fun g => g) w1.heap.size (.cells #[.int .i64 0, .int .i64 0] 25))]
      [false, false, false, false, false, false, false, false, false, false, false, false, false, false, false, false, false, false, true, false, false, false, true] (by kernel_rfl) (by kernel_rfl) rfl (fun _ _ d _ _ h => by cases d <;> exact h) ?_
    simp only [List.take_succ_cons, List.take_zero, pickO, List.getElem?_cons_zero, List.getElem?_cons_succ]
    refine can_pure0 rfl (fun K hK => ?_); go_simp; refine hK _ ?_; clear hK K
    refine can_pure0 rfl (fun K hK => ?_); go_simp; refine hK _ ?_; clear hK K
    refine can_pure0 rfl (fun K hK => ?_); go_simp; refine hK _ ?_; clear hK K
    refine can_pure0 rfl (fun K hK => ?_); go_simp; refine hK _ ?_; clear hK K
    refine can_pure0 rfl (fun K hK => ?_); go_simp; refine hK _ ?_; clear hK K
    refine can_pure0 rfl (fun K hK => ?_); go_simp; refine hK _ ?_; clear hK K
    refine can_pure0 rfl (fun K hK => ?_); go_simp; refine hK _ ?_; clear hK K
    refine can_pure0 rfl (fun K hK => ?_); go_simp; refine hK _ ?_; clear hK K
    refine can_pure0 rfl (fun K hK => ?_); go_simp; refine hK _ ?_; clear hK K
    refine can_pure0 rfl (fun K hK => ?_); go_simp; refine hK _ ?_; clear hK K
    refine can_pure0 rfl (fun K hK => ?_); go_simp; refine hK _ ?_; clear hK K
    refine can_pure0 rfl (fun K hK => ?_); go_simp; refine hK _ ?_; clear hK K
    refine can_pure0 rfl (fun K hK => ?_); go_simp; refine hK _ ?_; clear hK K
    refine can_pure0 rfl (fun K hK => ?_); go_simp; refine hK _ ?_; clear hK K
    refine can_pure0 rfl (fun K hK => ?_); go_simp; refine hK _ ?_; clear hK K
    refine can_pure0 rfl (fun K hK => ?_); go_simp; refine hK _ ?_; clear hK K
    refine can_pure0 rfl (fun K hK => ?_); go_simp; refine hK _ ?_; clear hK K
    refine can_pure0 rfl (fun K hK => ?_); go_simp; refine hK _ ?_; clear hK K
    refine can_mem _ rfl (by go_simp) (fun W hW hG K hK => ?_) (fun K x9 hK => ?_)
    · go_simp
      refine (HMT.out W).mono ?_
      rintro e w' ⟨rfl, h⟩
      exact hK default w' h trivial
    refine hK _ ?_; clear hK K
    dsimp only [annVal]
    refine can_pure0 rfl (fun K hK => ?_); go_simp; refine hK _ ?_; clear hK K
    refine can_pure0 rfl (fun K hK => ?_); go_simp; refine hK _ ?_; clear hK K
    refine can_pure0 rfl (fun K hK => ?_); go_simp; refine hK _ ?_; clear hK K
    refine can_mem _ rfl (by go_simp) (fun W hW hG K hK => ?_) (fun K g9 hK => ?_)
    · go_simp
      exact hK W.heap.size _ ((Upd.refl _ W).alloc _) ⟨hW.size, alloc0 _ _⟩
    refine hK _ ?_; clear hK K
    dsimp only [annBlk]
    refine can_end (fun w8 hW hG => ?_)
    obtain ⟨hb9, hg9⟩ := hG _ (List.mem_append_right _ (List.mem_singleton.2 rfl))
    clear hG
    have H8 : Hid (Ext w1 w8) := Lib.hid (hW.ofDrewN)
    have m0 := frozenRow hg9 0
    have m1 := frozenRow hg9 1
    have cc0 := cellRow hg9 0 (.int .i64 0) rfl
    have cc1 := cellRow hg9 1 (.int .i64 0) rfl
    have HG9 := Lib.hid (And.intro hb9 hg9)
    clear hW hg9 hb9
    refine mix_one (fun K hK _ => ?_) trivial; go_simp; refine hK _ _ trivial ?_; clear hK K
    refine mix_two (fun K hK => ?_); go_simp; refine hK _ _ ?_; clear hK K
    simp only [wpMix]
    clear xc0 xc1 xc2 xc3 xo0 xo1 xp0 xp1 xq0 xq1
    have HE8 : Hid (Ext w w8) := Lib.hid (H0.out.ext H8.out)
    have hs9 : w.heap.size < g9 := by have h1 := HG9.out.1; have h2 := HS0.out; omega
    have hs9' : w.heap.size ≤ g9 := by omega
    have HE9 : Hid (Ext w ((w8.setCell ⟨g9, 0, none⟩ (.int .i64 X)).setCell ⟨g9, 1, none⟩ (.int .i64 Y))) := Lib.hid ((HE8.out.setNew hs9' _).setNew hs9' _)
    have hb9 := setBlock (setBlock HG9.out.2 0 (.int .i64 X)) 1 (.int .i64 Y)
    have c90 := cellRow hb9 0 (.int .i64 X) rfl
    have c91 := cellRow hb9 1 (.int .i64 Y) rfl
    have hz8 := ((Upd.refl (fun k => k = g9) w8).setCell (p := ⟨g9, 0, none⟩) (.inl rfl) (.int .i64 X)).setCell (p := ⟨g9, 1, none⟩) (.inl rfl) (.int .i64 Y)
    have hz9 := hz8.heap (H8.out.heap HB0.out (fun h => h)) (by omega)
    have n0 := frozenRow hz9 0
    have n1 := frozenRow hz9 1
    have n2 := frozenRow hz9 2
    have n3 := frozenRow hz9 3
    have z0 := cellRow hz9 0 (.int .i64 0) rfl
    have z1 := cellRow hz9 1 (.int .i64 0) rfl
    have z2 := cellRow hz9 2 (.int .i64 0) rfl
    have z3 := cellRow hz9 3 (.int .i64 0) rfl
    clear hb9 hz8 hz9 m0 m1 cc0 cc1
    generalize ((w8.setCell ⟨g9, 0, none⟩ (.int .i64 X)).setCell ⟨g9, 1, none⟩ (.int .i64 Y)) = w9 at *
    go_wp2_with fail
    refine bodyPost_ret (v := .tuple #[.agg #[.int .i64 X, .int .i64 Y, .int .i64 A, .int .i64 B], .bool true]) (by simp [results, Try.results57, go_sem, *]) rfl ⟨rfl, upd_set4 HE9.out (.inr (Nat.le_refl _)) _ _ _ _ _ _ _ _⟩

end Go.Proofs.Ytncnojhbdkhcjaa

/- Certificates. -/
namespace Go.Proofs.Ytncnojhbdkhcjaa
open Go.RowKit Go.Hw Go
set_option linter.unusedVariables false
set_option linter.unusedSimpArgs false

theorem certM_nil (w : World) : Calls Try.prog 27 #[.pointer none] w fun e w' => e = .returned (.slice none 0 0) ∧ Ext w w' := by
  have HZ := Lib.hid (Upd.refl (fun _ => False) w)
  go_enter Try.func27, Try.ntmps27
  go_wp2_with fail
  go_ret
  exact ⟨rfl, HZ.out⟩
set_option maxRecDepth 100000 in
set_option maxHeartbeats 2000000 in
theorem certM_x (w : World) (kb : Nat) (mv ov : Value) (l : List Mo) (n d : Int) (h : LiR w kb mv ov l n d) :
    Calls Try.prog 27 #[.pointer (some ⟨kb, 0, none⟩)] w fun e w' => ∃ r, e = .returned r ∧ w'.ownsRow w.heap.size 51 4 r (certF l n d).length (sCells (certF l n d)) ∧ Ext w w' := by
  have HR := Lib.hid h
  obtain ⟨ao, co, hov⟩ := own_shape h.ord
  subst hov
  have c3 := cellRow h.cell 3 (.slice ao l.length co) rfl
  have hl := h.len
  have HCX := Lib.hid (fun W i (hW : Ext w W) (hi : i + 1 < l.length) => certificate_x W kb mv _ l n d i (h.ext hW) hi)
  clear h
  go_enter Try.func27, Try.ntmps27
  go_wp2_with fail
  go_loopg [3, 15] l.length (fun gk bv iv wr => ∃ k : Nat, iv = .int .i64 (k : Int) ∧ gk = l.length - k ∧ (k = 0 ∨ k + 1 ≤ l.length) ∧ Hid (Ext w wr) ∧ Hid (wr.ownsRow w.heap.size 51 4 bv (certP l n d k).length (sCells (certP l n d k))))
  case atStart => exact ⟨0, rfl, rfl, .inl rfl, Lib.hid (Upd.refl _ _), Lib.hid (World.ownsRow_nil _ _ _ _)⟩
  case round =>
    obtain ⟨k, rfl, rfl, hk, HE, HO⟩ := hrel
    obtain ⟨a5, c5, hv5⟩ := own_shape HO.out
    subst hv5
    by_cases hlt : k + 1 < l.length
    · have HC := Lib.hid (HCX.out wr k HE.out hlt)
      have z1 : decide ((k : Int) < (l.length : Int) - 1) = true := decide_eq_true (by omega)
      have z0 : (k : Int) < (l.length : Int) - 1 := by omega
      clear HCX c3
      cases hC : certAt l n d k with
      | none =>
        rw [hC] at HC
        have HCP := Lib.hid (certP_no l n d k hC)
        clear hC
        go_wp2_with fail
        refine HC.out.mono ?_
        rintro e w4 ⟨⟨v0, v1, v2, v3, rfl⟩, hw4⟩
        have HE4 := Lib.hid (HE.out.ext hw4)
        have HO4 := Lib.hid (own_kept HO.out hw4 (fun _ _ h => h))
        clear hw4
        go_wp2_with fail
        have HE5 := Lib.hid (HE4.out.alloc (.cells #[.int .i64 v0, .int .i64 v1, .int .i64 v2, .int .i64 v3] 51))
        have HO5 := Lib.hid (World.ownsRow.alloc HO4.out (.cells #[.int .i64 v0, .int .i64 v1, .int .i64 v2, .int .i64 v3] 51))
        go_roundg (l.length - (k + 1))
        case measure => omega
        case rel => exact ⟨k + 1, by go_num, rfl, .inr hlt, HE5, Lib.hid (by rw [HCP.out]; exact HO5.out)⟩
      | some x =>
        rw [hC] at HC
        have HCP := Lib.hid (certP_yes l n d k x hC)
        clear hC
        obtain ⟨x0, x1, x2, x3⟩ := x
        have HC2 := HC.out
        simp only at HC2
        have HC3 := Lib.hid HC2
        clear HC HC2
        have HPL : Hid ((certP l n d k).length ≤ k) := Lib.hid (by unfold certP; exact Nat.le_trans (List.length_filterMap_le _ _) (by simp))
        go_wp2_with fail
        refine HC3.out.mono ?_
        rintro e w4 ⟨rfl, hw4⟩
        have HE4 := Lib.hid ((HE.out.ext hw4).alloc (.cells #[.int .i64 x0, .int .i64 x1, .int .i64 x2, .int .i64 x3] 51))
        have HO4 := Lib.hid (World.ownsRow.alloc (own_kept HO.out hw4 (fun _ _ h => h)) (.cells #[.int .i64 x0, .int .i64 x1, .int .i64 x2, .int .i64 x3] 51))
        have hb4 := alloc0 w4 (.cells #[.int .i64 x0, .int .i64 x1, .int .i64 x2, .int .i64 x3] 51)
        have z40 := cellRow hb4 0 (.int .i64 x0) rfl
        have z41 := cellRow hb4 1 (.int .i64 x1) rfl
        have z42 := cellRow hb4 2 (.int .i64 x2) rfl
        have z43 := cellRow hb4 3 (.int .i64 x3) rfl
        clear hw4 hb4
        have hsz4 := HE4.out.size
        simp at hsz4
        have hpl := HPL.out
        obtain ⟨iS, hi, hz0, hz1, hz2⟩ := info_parts info51
        go_wp2_with (at_builtin; refine wpList_append_at _ rfl (.tmp 25) (.tmp 27) 48 rfl w.heap.size 51 iS (.agg #[.int .i64 0, .int .i64 0, .int .i64 0, .int .i64 0]) 4 32 Try.underlying48 hi hz0 hz1 hz2 rfl (by decide) _ _ _ rfl (HO4.out.alloc _) ⟨w4.heap.size + 1, 0, none⟩ 1 1 [.int .i64 x0, .int .i64 x1, .int .i64 x2, .int .i64 x3] rfl rfl ?c1 ?c2 ?c3 ?c4 ?c5 ?_)
        case c1 =>
          intro j u hj
          match j, hj with
          | 0, hj => simp at hj; subst hj; simp [Addr.add]
          | 1, hj => simp at hj; subst hj; simp [Addr.add]
          | 2, hj => simp at hj; subst hj; simp [Addr.add]
          | 3, hj => simp at hj; subst hj; simp [Addr.add]
        case c2 => intro u hu; simp at hu; rcases hu with rfl | rfl | rfl | rfl <;> rfl
        case c3 => unfold maxLen; omega
        case c4 => omega
        case c5 => simp; omega
        intro v10 w10 hG
        have HO10 : Hid (w10.ownsRow w.heap.size 51 4 v10 (certP l n d (k + 1)).length (sCells (certP l n d (k + 1)))) := Lib.hid (by rw [HCP.out, sCells_snoc, List.length_append]; exact hG.own)
        have HE10 : Hid (Ext w w10) := Lib.hid (upd_grown_new (HE4.out.alloc _) hG.grown (fun k e => (HO4.out.lt k e).1))
        obtain ⟨a11, c11, hv11⟩ := own_shape HO10.out
        subst hv11
        clear hG
        go_wp2_with fail
        go_roundg (l.length - (k + 1))
        case measure => omega
        case rel => exact ⟨k + 1, by go_num, rfl, .inr hlt, HE10, HO10⟩
    · have hkl : k = l.length - 1 := by omega
      have HQ : Hid (certP l n d k = certF l n d) := Lib.hid (by rw [hkl]; rfl)
      have z1 : decide ((k : Int) < (l.length : Int) - 1) = false := decide_eq_false (by omega)
      clear hkl HCX c3
      go_wp2_with fail
      go_ret
      refine ⟨_, rfl, ?_, HE.out⟩
      rw [← HQ.out]
      exact HO.out

end Go.Proofs.Ytncnojhbdkhcjaa

/- Next. -/
namespace Go.Proofs.Ytncnojhbdkhcjaa
open Go.RowKit Go.Hw Go
set_option linter.unusedVariables false
set_option linter.unusedSimpArgs false

def better (b y : Sw) : Sw := if y.1 * b.2.1 < b.1 * y.2.1 then y else b
def bestF : List Sw → Option Sw
  | [] => none
  | x :: r => some (r.foldl better x)
theorem certAt_ok {l : List Mo} {n d : Int} {i : Nat} {x : Sw} (hm : mB l = true) (h : certAt l n d i = some x) : okE x := by
  unfold certAt at h
  split at h
  · rename_i hb
    injection h with h
    subst h
    have hne : (mg l ((ordF l n d).getD i 0)).2 ≠ (mg l ((ordF l n d).getD (i + 1) 0)).2 := by
      intro e
      unfold meetB at hb
      rw [beq_iff_eq.2 e] at hb
      cases hb
    exact (mt_mk (mB_at hm _) (mB_at hm _) hne).2.2.2
  · cases h
theorem certF_ok {l : List Mo} {n d : Int} (hm : mB l = true) : ∀ x ∈ certF l n d, okE x := by
  intro x hx
  unfold certF certP at hx
  rw [List.mem_filterMap] at hx
  obtain ⟨i, _, h⟩ := hx
  exact certAt_ok hm h
theorem certF_len (l : List Mo) (n d : Int) : (certF l n d).length ≤ l.length := by
  unfold certF certP
  refine Nat.le_trans (List.length_filterMap_le _ _) ?_
  simp
theorem sCells_drop (L : List Sw) : (sCells L).drop (1 * 4) = sCells (L.drop 1) := by
  cases L with
  | nil => rfl
  | cons a L => rfl
theorem fold_ok (r : List Sw) (x : Sw) (hx : okE x) (hr : ∀ y ∈ r, okE y) : okE (r.foldl better x) := by
  induction r generalizing x with
  | nil => exact hx
  | cons y r ih =>
    rw [List.foldl_cons]
    refine ih _ ?_ (fun z hz => hr z (List.mem_cons_of_mem _ hz))
    unfold better
    split
    · exact hr y List.mem_cons_self
    · exact hx
theorem fold_take (r : List Sw) (x : Sw) (k : Nat) (h : k < r.length) : (r.take (k + 1)).foldl better x = better ((r.take k).foldl better x) (sg4 r k) := by
  rw [List.take_add_one, List.getElem?_eq_getElem h, List.foldl_append]
  unfold sg4
  rw [List.getD_eq_getElem?_getD, List.getElem?_eq_getElem h]
  rfl
set_option maxRecDepth 100000 in
set_option maxHeartbeats 2000000 in
theorem Next_x (w : World) (kb : Nat) (mv ov : Value) (l : List Mo) (n d : Int) (h : LiR w kb mv ov l n d) :
    Calls Try.prog 23 #[.pointer (some ⟨kb, 0, none⟩)] w fun e w' => e = .returned (match bestF (certF l n d) with
      | none => .tuple #[.agg #[.int .i64 0, .int .i64 0, .int .i64 0, .int .i64 0], .int .i64 12]
      | some x => .tuple #[.agg #[.int .i64 x.1, .int .i64 x.2.1, .int .i64 x.2.2.1, .int .i64 x.2.2.2], .int .i64 0]) ∧ Ext w w' := by
  have hZ0 : Upd (fun _ => False) w (w.alloc (.cells #[.int .i64 0, .int .i64 0, .int .i64 0, .int .i64 0] 51)) := (Upd.refl (fun _ => False) w).alloc _
  have hCM := certM_x (w.alloc (.cells #[.int .i64 0, .int .i64 0, .int .i64 0, .int .i64 0] 51)) kb mv ov l n d (h.ext hZ0)
  have hok := certF_ok (n := n) (d := d) h.okm
  have hlen := certF_len l n d
  have hl := h.len
  have HB0 := Lib.hid (alloc0 w (.cells #[.int .i64 0, .int .i64 0, .int .i64 0, .int .i64 0] 51))
  have HS0 : Hid (w.heap.size < (w.alloc (.cells #[.int .i64 0, .int .i64 0, .int .i64 0, .int .i64 0] 51)).heap.size) := Lib.hid (by simp)
  have HZ := Lib.hid hZ0
  have HCM := Lib.hid hCM
  generalize certF l n d = c at *
  have HOK := Lib.hid hok
  clear h hZ0 hCM hok
  cases c with
  | nil =>
    go_enter Try.func23, Try.ntmps23
    go_wp2_with fail
    refine HCM.out.mono ?_
    rintro e w4 ⟨r, rfl, hO, hE⟩
    obtain ⟨a4, c4, hv4⟩ := own_shape hO
    simp only [List.length_nil] at hv4
    subst hv4
    have hz9 := hE.heap HB0.out (fun h => h)
    have n0 := frozenRow hz9 0
    have n1 := frozenRow hz9 1
    have n2 := frozenRow hz9 2
    have n3 := frozenRow hz9 3
    have z0 := cellRow hz9 0 (.int .i64 0) rfl
    have z1 := cellRow hz9 1 (.int .i64 0) rfl
    have z2 := cellRow hz9 2 (.int .i64 0) rfl
    have z3 := cellRow hz9 3 (.int .i64 0) rfl
    have H4 := Lib.hid (HZ.out.ext hE)
    clear hO hE hz9 HCM
    go_wp2_with fail
    exact bodyPost_ret (v := .tuple #[.agg #[.int .i64 0, .int .i64 0, .int .i64 0, .int .i64 0], .int .i64 12]) (by simp [results, Try.results23, go_sem, *]) rfl ⟨rfl, upd_set4 H4.out (.inr (Nat.le_refl _)) _ _ _ _ _ _ _ _⟩
  | cons x c =>
    show Calls Try.prog 23 #[.pointer (some ⟨kb, 0, none⟩)] w fun e w' => e = .returned (.tuple #[.agg #[.int .i64 (c.foldl better x).1, .int .i64 (c.foldl better x).2.1, .int .i64 (c.foldl better x).2.2.1, .int .i64 (c.foldl better x).2.2.2], .int .i64 0]) ∧ Ext w w'
    obtain ⟨bb, hbb⟩ : ∃ b, c.foldl better x = b := ⟨_, rfl⟩
    rw [hbb]
    have HBB := Lib.hid hbb
    obtain ⟨r0, r1, r2, r3⟩ := bb
    simp only
    clear hbb
    go_enter Try.func23, Try.ntmps23
    go_wp2_with fail
    refine HCM.out.mono ?_
    rintro e w4 ⟨r, rfl, hO, hE⟩
    obtain ⟨g, c4, hv4⟩ := own_some hO (by simp)
    subst hv4
    have hR : SwR (fun k => k < w4.heap.size) w4 (.slice (some ⟨g, 0, none⟩) (x :: c).length c4) (x :: c) := (SlR.of_own hO).weaken (fun k hk => (hO.lt k hk).2)
    have hcap := SlR.le_cap hR rfl
    obtain ⟨i0', i1', i2', i3'⟩ := hR.cells (i := 0) (by simp)
    have HR := Lib.hid hR
    have hz9 := hE.heap HB0.out (fun h => h)
    have HZ9 := Lib.hid hz9
    have H4 := Lib.hid (HZ.out.ext hE)
    have hs4 : w.heap.size < w4.heap.size := Nat.lt_of_lt_of_le HS0.out hE.size
    have HS4 := Lib.hid hs4
    have hlc : ((x :: c).length : Int) = (c.length : Int) + 1 := by simp
    simp only [Nat.zero_mul, Nat.add_zero, Nat.zero_add] at i0' i1' i2' i3'
    have i0 : w4.cell? ⟨g, 0, none⟩ = some (.int .i64 x.1) := i0'
    have i1 : w4.cell? ⟨g, 1, none⟩ = some (.int .i64 x.2.1) := i1'
    have i2 : w4.cell? ⟨g, 2, none⟩ = some (.int .i64 x.2.2.1) := i2'
    have i3 : w4.cell? ⟨g, 3, none⟩ = some (.int .i64 x.2.2.2) := i3'
    clear i0' i1' i2' i3'
    have hle1 : 1 ≤ (x :: c).length := by simp
    have t1 : ((((x :: c).length : Nat) : Int) == 0) = false := by simp; omega
    have t2 : (0 : Int) < (((x :: c).length : Nat) : Int) := by simp
    generalize hN : (x :: c).length = N at *
    clear hO hE hz9 HCM hR hs4
    have HB5 := Lib.hid (alloc0 w4 (.cells #[.int .i64 x.1, .int .i64 x.2.1, .int .i64 x.2.2.1, .int .i64 x.2.2.2] 51))
    have H5 := Lib.hid ((Upd.refl (fun _ => False) w4).alloc (.cells #[.int .i64 x.1, .int .i64 x.2.1, .int .i64 x.2.2.1, .int .i64 x.2.2.2] 51))
    have HZ5 := Lib.hid (allocOld HZ9.out (.cells #[.int .i64 x.1, .int .i64 x.2.1, .int .i64 x.2.2.1, .int .i64 x.2.2.2] 51))
    have HT5 : Hid (SlR (fun k => k < w4.heap.size) (w4.alloc (.cells #[.int .i64 x.1, .int .i64 x.2.1, .int .i64 x.2.2.1, .int .i64 x.2.2.2] 51)) 4 (.slice (some ⟨g, 0, none⟩) N c4) N (sCells (x :: c))) := Lib.hid (by have := HR.out; unfold SwR at this; rw [hN] at this; exact SlR.kept this H5.out (fun _ _ h => h))
    have hN1 : N - 1 = c.length := by rw [← hN]; simp
    have hlc2 : (N : Int) = (c.length : Int) + 1 := by rw [← hN]; simp
    have hcl : c.length ≤ 64 := by omega
    go_wp2_with (with_reducible (refine stop_at (o := ⟨some 21, _, _, _, _, _⟩) ?_))
    refine Stop.go ?_
    refine wpList_slice_from _ rfl 48 _ _ rfl 4 (by kernel_rfl) (fun _ => by kernel_rfl) _ _ _ _ rfl HT5.out 1 .i64 1 rfl rfl (by omega) (fun sv hsv => ?_)
    rw [hN1, sCells_drop] at hsv
    have HSV : Hid (SwR (fun k => k < w4.heap.size) (w4.alloc (.cells #[.int .i64 x.1, .int .i64 x.2.1, .int .i64 x.2.2.1, .int .i64 x.2.2.2] 51)) sv c) := Lib.hid hsv
    obtain ⟨a7, c7, rfl⟩ := hsv.shape
    clear hsv HT5 HR hcap i0 i1 i2 i3 hN hN1 t1 t2 HB0 hle1 hlc hlc2
    generalize hw5 : (w4.alloc (.cells #[.int .i64 x.1, .int .i64 x.2.1, .int .i64 x.2.2.1, .int .i64 x.2.2.2] 51)) = w5 at *
    clear hw5
    have HS5 : Hid (w4.heap.size < w5.heap.size) := Lib.hid (Array.getElem?_eq_some_iff.1 HB5.out).1
    go_wp2_with fail
    go_loopg [23] c.length (fun gk iv wr => ∃ k : Nat, iv = .int .i64 (k : Int) ∧ gk = c.length - k ∧ k ≤ c.length ∧ Hid (Upd (fun j => j = w4.heap.size) w5 wr) ∧ ∃ q0 q1 q2 q3 : Int, Hid ((c.take k).foldl better x = (q0, q1, q2, q3)) ∧ Hid (wr.heap[w4.heap.size]? = some (.cells #[.int .i64 q0, .int .i64 q1, .int .i64 q2, .int .i64 q3] 51 (0, 0))))
    case atStart => exact ⟨0, rfl, rfl, Nat.zero_le _, Lib.hid (Upd.refl _ _), x.1, x.2.1, x.2.2.1, x.2.2.2, Lib.hid rfl, HB5⟩
    case round =>
      obtain ⟨k, rfl, rfl, hk, HE, q0, q1, q2, q3, HQ, HB⟩ := hrel
      by_cases hlt : k < c.length
      · obtain ⟨g7, o7, rfl⟩ := HSV.out.at_ (by omega)
        have hR7 : SwR (fun k => k < w4.heap.size) wr (.slice (some ⟨g7, o7, none⟩) c.length c7) c := SlR.kept HSV.out HE.out (fun j hj e => by omega)
        obtain ⟨j0, j1, j2, j3⟩ := hR7.cells hlt
        have hoky : okE (sg4 c k) := by
          unfold sg4
          rw [List.getD_eq_getElem?_getD, List.getElem?_eq_getElem hlt]
          exact HOK.out _ (List.mem_cons_of_mem _ (List.getElem_mem hlt))
        have hokq : okE (q0, q1, q2, q3) := by
          rw [← HQ.out]
          exact fold_ok _ _ (HOK.out _ List.mem_cons_self) (fun y hy => HOK.out _ (List.mem_cons_of_mem _ (List.mem_of_mem_take hy)))
        have HN := Lib.hid (fold_take c x k hlt)
        have hz0 : (0 : Int) ≤ (k : Int) := by omega
        have hz1 : (k : Int) < (c.length : Int) := by omega
        rw [HQ.out] at HN
        generalize sg4 c k = y at *
        obtain ⟨p0, p1, p2, p3⟩ := y
        simp only at j0 j1 j2 j3
        have HBF := Lib.hid (fun W => before_x p0 p1 q0 q1 W hoky hokq)
        have hb7 := alloc0 wr (.cells #[.int .i64 p0, .int .i64 p1, .int .i64 p2, .int .i64 p3] 51)
        have hBo := allocOld HB.out (.cells #[.int .i64 p0, .int .i64 p1, .int .i64 p2, .int .i64 p3] 51)
        have d0 := cellRow hb7 0 (.int .i64 p0) rfl
        have d1 := cellRow hb7 1 (.int .i64 p1) rfl
        have e0 := cellRow hBo 0 (.int .i64 q0) rfl
        have e1 := cellRow hBo 1 (.int .i64 q1) rfl
        have HB7 := Lib.hid (And.intro hb7 hBo)
        have HE7 := Lib.hid (HE.out.alloc (.cells #[.int .i64 p0, .int .i64 p1, .int .i64 p2, .int .i64 p3] 51))
        have HSR : Hid (w4.heap.size < wr.heap.size) := Lib.hid (Nat.lt_of_lt_of_le HS5.out HE.out.size)
        clear hR7 hoky hokq hb7 hBo
        by_cases hC : p0 * q1 < q0 * p1
        · have HN2 : Hid ((c.take (k + 1)).foldl better x = (p0, p1, p2, p3)) := Lib.hid (by rw [HN.out]; unfold better; rw [if_pos hC])
          rw [decide_eq_true hC] at HBF
          clear hC HN
          go_wp2_with fail
          refine (HBF.out _).mono ?_
          rintro e w8 ⟨rfl, hw8⟩
          have hb7 := hw8.heap HB7.out.1 (fun h => h)
          have hBo := hw8.heap HB7.out.2 (fun h => h)
          have f0 := cellRow hb7 0 (.int .i64 p0) rfl
          have f1 := cellRow hb7 1 (.int .i64 p1) rfl
          have f2 := cellRow hb7 2 (.int .i64 p2) rfl
          have f3 := cellRow hb7 3 (.int .i64 p3) rfl
          have g0 := cellRow hBo 0 (.int .i64 q0) rfl
          have g1 := cellRow hBo 1 (.int .i64 q1) rfl
          have g2 := cellRow hBo 2 (.int .i64 q2) rfl
          have g3 := cellRow hBo 3 (.int .i64 q3) rfl
          have m0 := frozenRow hBo 0
          have m1 := frozenRow hBo 1
          have m2 := frozenRow hBo 2
          have m3 := frozenRow hBo 3
          have HBo := Lib.hid hBo
          have HE8 := Lib.hid (HE7.out.trans' hw8 (fun _ _ h => h.elim))
          clear hw8 hb7 hBo HBF d0 d1 e0 e1 j0 j1 j2 j3
          go_wp2_with fail
          have HB9 := Lib.hid (setBlock (setBlock (setBlock (setBlock HBo.out 0 (.int .i64 p0)) 1 (.int .i64 p1)) 2 (.int .i64 p2)) 3 (.int .i64 p3))
          have HE9 := Lib.hid (upd_set4 HE8.out (g := w4.heap.size) (.inl rfl) 0 1 2 3 (.int .i64 p0) (.int .i64 p1) (.int .i64 p2) (.int .i64 p3))
          go_roundg (c.length - (k + 1))
          case measure => omega
          case rel => exact ⟨k + 1, by go_num, rfl, by omega, HE9, p0, p1, p2, p3, HN2, HB9⟩
        · have HN2 : Hid ((c.take (k + 1)).foldl better x = (q0, q1, q2, q3)) := Lib.hid (by rw [HN.out]; unfold better; rw [if_neg hC])
          rw [decide_eq_false hC] at HBF
          clear hC HN
          go_wp2_with fail
          refine (HBF.out _).mono ?_
          rintro e w8 ⟨rfl, hw8⟩
          have HBo := Lib.hid (hw8.heap HB7.out.2 (fun h => h))
          have HE8 := Lib.hid (HE7.out.trans' hw8 (fun _ _ h => h.elim))
          clear hw8 HBF d0 d1 e0 e1 j0 j1 j2 j3
          go_wp2_with fail
          go_roundg (c.length - (k + 1))
          case measure => omega
          case rel => exact ⟨k + 1, by go_num, rfl, by omega, HE8, q0, q1, q2, q3, HN2, HBo⟩
      · obtain rfl : k = c.length := by omega
        have hq : (q0, q1, q2, q3) = (r0, r1, r2, r3) := by rw [← HQ.out, List.take_length, HBB.out]
        injection hq with hq0 hq
        injection hq with hq1 hq
        injection hq with hq2 hq3
        subst hq0; subst hq1; subst hq2; subst hq3
        have hz5 := HE.out.heap HZ5.out (by have := HS4.out; omega)
        have n0 := frozenRow hz5 0
        have n1 := frozenRow hz5 1
        have n2 := frozenRow hz5 2
        have n3 := frozenRow hz5 3
        have z0 := cellRow hz5 0 (.int .i64 0) rfl
        have z1 := cellRow hz5 1 (.int .i64 0) rfl
        have z2 := cellRow hz5 2 (.int .i64 0) rfl
        have z3 := cellRow hz5 3 (.int .i64 0) rfl
        have b0 := cellRow HB.out 0 (.int .i64 q0) rfl
        have b1 := cellRow HB.out 1 (.int .i64 q1) rfl
        have b2 := cellRow HB.out 2 (.int .i64 q2) rfl
        have b3 := cellRow HB.out 3 (.int .i64 q3) rfl
        have HU : Hid (Ext w wr) := Lib.hid ((H4.out.ext H5.out).trans' HE.out (fun i hi e => by have := HS4.out; omega))
        clear hz5
        go_wp2_with fail
        exact bodyPost_ret (v := .tuple #[.agg #[.int .i64 q0, .int .i64 q1, .int .i64 q2, .int .i64 q3], .int .i64 0]) (by simp [results, Try.results23, go_sem, *]) rfl ⟨rfl, upd_set4 HU.out (.inr (Nat.le_refl _)) _ _ _ _ _ _ _ _⟩

end Go.Proofs.Ytncnojhbdkhcjaa

/- NewList. -/
namespace Go.Proofs.Ytncnojhbdkhcjaa
open Go.RowKit Go.Hw Go
set_option linter.unusedVariables false
set_option linter.unusedSimpArgs false
set_option maxRecDepth 100000 in
set_option maxHeartbeats 2000000 in
theorem newlist_bad (l : List Mo) (S : Nat → Prop) (v : Value) (w : World) (hl2 : l.length ≤ 4611686018427387904) (hR : MoR S w v l) (hS : ∀ k, S k → k < w.heap.size) (hm : mB l = false) :
    Calls Try.prog 45 #[v] w fun e w' => e = .returned (.tuple #[.pointer none, .int .i64 1]) ∧ Ext w w' := by
  obtain ⟨a, cap, rfl⟩ := hR.shape
  have HZZ := Lib.hid zero_x
  have HO := Lib.hid (fun W (hW : Ext w W) => Order_bad1 l 0 1 S _ W (by decide) (by decide) (by decide) (by decide) hl2 (hR.ext hW) (fun k hk => Nat.lt_of_lt_of_le (hS k hk) hW.size) hm)
  clear hR hS
  go_enter Try.func45, Try.ntmps45
  go_wp2_with fail
  refine (HZZ.out _).mono ?_
  rintro e w4 ⟨rfl, hw4⟩
  have H4 := Lib.hid hw4
  clear hw4
  go_wp2_with fail
  refine (HO.out _ H4.out).mono ?_
  rintro e w5 ⟨r, rfl, hO, hw5⟩
  have H5 := Lib.hid (H4.out.ext hw5)
  obtain ⟨a5, c5, rfl⟩ := own_shape hO
  clear hO hw5
  go_wp2_with fail
  go_ret2
  exact ⟨rfl, H5.out⟩
set_option maxRecDepth 100000 in
set_option maxHeartbeats 2000000 in
theorem newlist_full (l : List Mo) (S : Nat → Prop) (v : Value) (w : World) (hl2 : l.length ≤ 4611686018427387904) (hR : MoR S w v l) (hS : ∀ k, S k → k < w.heap.size) (hm : mB l = true) (hl : 64 < l.length) :
    Calls Try.prog 45 #[v] w fun e w' => e = .returned (.tuple #[.pointer none, .int .i64 4]) ∧ Ext w w' := by
  obtain ⟨a, cap, rfl⟩ := hR.shape
  have HZZ := Lib.hid zero_x
  have HO := Lib.hid (fun W (hW : Ext w W) => Order_full l 0 1 S _ W (by decide) (by decide) (by decide) (by decide) hl2 (hR.ext hW) (fun k hk => Nat.lt_of_lt_of_le (hS k hk) hW.size) hm (by decide) hl)
  clear hR hS
  go_enter Try.func45, Try.ntmps45
  go_wp2_with fail
  refine (HZZ.out _).mono ?_
  rintro e w4 ⟨rfl, hw4⟩
  have H4 := Lib.hid hw4
  clear hw4
  go_wp2_with fail
  refine (HO.out _ H4.out).mono ?_
  rintro e w5 ⟨r, rfl, hO, hw5⟩
  have H5 := Lib.hid (H4.out.ext hw5)
  obtain ⟨a5, c5, rfl⟩ := own_shape hO
  clear hO hw5
  go_wp2_with fail
  go_ret2
  exact ⟨rfl, H5.out⟩
set_option maxRecDepth 100000 in
set_option maxHeartbeats 2000000 in
theorem newlist_ok (l : List Mo) (S : Nat → Prop) (v : Value) (w : World) (hl2 : l.length ≤ 4611686018427387904) (hR : MoR S w v l) (hS : ∀ k, S k → k < w.heap.size) (hm : mB l = true) (hl : l.length ≤ 64) :
    Calls Try.prog 45 #[v] w fun e w' => ∃ kb mv ov, e = .returned (.tuple #[.pointer (some ⟨kb, 0, none⟩), .int .i64 0]) ∧ LiR w' kb mv ov l 0 1 ∧ (w.heap.size ≤ kb ∧ (∀ g, mv.ownBlock = some g → w.heap.size ≤ g) ∧ ∀ g, ov.ownBlock = some g → w.heap.size ≤ g) ∧ Ext w w' := by
  obtain ⟨a, cap, rfl⟩ := hR.shape
  have HZZ := Lib.hid zero_x
  have HO := Lib.hid (fun W (hW : Ext w W) => Order_ok l 0 1 S _ W (by decide) (by decide) (by decide) (by decide) hl2 (hR.ext hW) (fun k hk => Nat.lt_of_lt_of_le (hS k hk) hW.size) hm (by decide) hl)
  have HCL := Lib.hid (fun W (hW : Ext w W) => cloneM_x S _ l.length _ W (hR.ext hW) (mCells_one l) (by omega))
  have HM := Lib.hid (And.intro hm hl)
  clear hR hS
  go_enter Try.func45, Try.ntmps45
  go_wp2_with fail
  refine (HZZ.out _).mono ?_
  rintro e w4 ⟨rfl, hw4⟩
  have H4 := Lib.hid hw4
  clear hw4
  go_wp2_with fail
  refine (HO.out _ H4.out).mono ?_
  rintro e w5 ⟨r, rfl, hO, hw5⟩
  have H5 := Lib.hid (H4.out.ext hw5)
  obtain ⟨a5, c5, rfl⟩ := own_shape hO
  have HO5 := Lib.hid (own_base hO H4.out.size)
  clear hO hw5
  go_wp2_with fail
  refine (HCL.out _ H5.out).mono ?_
  rintro e w6 ⟨r, rfl, hO, hw6⟩
  have H6 := Lib.hid (H5.out.ext hw6)
  have HO6 := Lib.hid (own_kept HO5.out hw6 (fun _ _ h => h))
  obtain ⟨a6, c6, rfl⟩ := own_shape hO
  have HM6 := Lib.hid (own_base hO H5.out.size)
  have HLT : Hid (∀ g, (Value.slice a6 l.length c6).ownBlock = some g → (Value.slice a5 l.length c5).ownBlock ≠ some g) := Lib.hid (fun g h1 h2 => by have h3 := (hO.lt g h1).1; have h4 := (HO5.out.lt g h2).2; omega)
  clear hO hw6
  go_wp2_with fail
  refine (HZZ.out _).mono ?_
  rintro e w7 ⟨rfl, hw7⟩
  have H7 := Lib.hid (H6.out.ext hw7)
  have HO7 := Lib.hid (own_kept HO6.out hw7 (fun _ _ h => h))
  have HM7 := Lib.hid (own_kept HM6.out hw7 (fun _ _ h => h))
  clear hw7
  go_wp2_with fail
  go_ret2
  have hU := (Upd.refl (fun _ => False) w7).alloc (.cells #[.slice a6 l.length c6, .int .i64 0, .int .i64 1, .slice a5 l.length c5] 96)
  refine ⟨w7.heap.size, _, _, rfl, ⟨alloc0 _ _, own_base (own_kept HM7.out hU (fun _ _ h => h)) (Nat.zero_le _), own_base (own_kept HO7.out hU (fun _ _ h => h)) (Nat.zero_le _), fun e => ?_, fun e => ?_, HLT.out, HM.out.1, by decide, by decide, HM.out.2⟩, ⟨H7.out.size, fun g hg => (HM7.out.lt g hg).1, fun g hg => (HO7.out.lt g hg).1⟩, H7.out.ext hU⟩
  · have := (HM7.out.lt _ e).2; omega
  · have := (HO7.out.lt _ e).2; omega

end Go.Proofs.Ytncnojhbdkhcjaa

/- The swaps. -/
namespace Go.Proofs.Ytncnojhbdkhcjaa
open Go.RowKit Go.Hw Go
set_option linter.unusedVariables false
set_option linter.unusedSimpArgs false

theorem ordF_getD (l : List Mo) (n d : Int) {i : Nat} (h : i < l.length) : ∃ h2 : i < (ordF l n d).length, (ordF l n d).getD i 0 = (ordF l n d)[i] := by
  have h2 : i < (ordF l n d).length := by rw [ordF_len]; exact h
  refine ⟨h2, ?_⟩
  rw [List.getD_eq_getElem?_getD, List.getElem?_eq_getElem h2]
  rfl
theorem ordF_lt (l : List Mo) (n d : Int) {i j : Nat} (hij : i < j) (hj : j < l.length) : lessK l n d ((ordF l n d).getD i 0) ((ordF l n d).getD j 0) = true := by
  obtain ⟨h1, e1⟩ := ordF_getD l n d (show i < l.length by omega)
  obtain ⟨h2, e2⟩ := ordF_getD l n d hj
  rw [e1, e2]
  exact List.pairwise_iff_getElem.1 (ordF_sorted l n d) i j h1 h2 hij
theorem ordF_ne (l : List Mo) (n d : Int) {i j : Nat} (hij : i < j) (hj : j < l.length) : (ordF l n d).getD i 0 ≠ (ordF l n d).getD j 0 := fun e => by
  have := ordF_lt l n d hij hj
  rw [e, lessK_irrefl] at this
  cases this
theorem ordF_idx (l : List Mo) (n d : Int) {a : Nat} (h : a < l.length) : ∃ i, i < l.length ∧ (ordF l n d).getD i 0 = a := by
  obtain ⟨i, hi, he⟩ := List.mem_iff_getElem.1 ((ordF_mem l n d a).2 h)
  have h2 : i < l.length := by rw [ordF_len] at hi; exact hi
  obtain ⟨h3, e3⟩ := ordF_getD l n d h2
  exact ⟨i, h2, by rw [e3]; exact he⟩
theorem ordF_pos (l : List Mo) (n d : Int) {i j : Nat} (hi : i < l.length) (hj : j < l.length) (h : lessK l n d ((ordF l n d).getD i 0) ((ordF l n d).getD j 0) = true) : i < j := by
  rcases Nat.lt_trichotomy i j with h1 | h1 | h1
  · exact h1
  · subst h1; rw [lessK_irrefl] at h; cases h
  · have := ordF_lt l n d h1 hi
    rw [lessK_asymm this] at h; cases h
/-- the places of the points in an order -/
def plF (O : List Nat) (N k : Nat) : List Nat := (List.range k).foldl (fun P q => P.set (O.getD q 0) q) (List.replicate N 0)
theorem plF_succ (O : List Nat) (N k : Nat) : plF O N (k + 1) = (plF O N k).set (O.getD k 0) k := by
  unfold plF
  rw [List.range_succ, List.foldl_append]
  rfl
theorem plF_len (O : List Nat) (N : Nat) : ∀ k, (plF O N k).length = N
  | 0 => by simp [plF]
  | k + 1 => by rw [plF_succ, List.length_set]; exact plF_len O N k
theorem plF_at (l : List Mo) (n d : Int) : ∀ k, k ≤ l.length → ∀ q, q < k → (plF (ordF l n d) l.length k).getD ((ordF l n d).getD q 0) 0 = q
  | 0, _, q, hq => by omega
  | k + 1, hk, q, hq => by
    rw [plF_succ, List.getD_eq_getElem?_getD, List.getElem?_set]
    by_cases e : q = k
    · subst e
      rw [if_pos rfl, if_pos (by rw [plF_len]; exact ordF_at_lt l n d q (by omega))]
      rfl
    · rw [if_neg (fun h => ordF_ne l n d (show q < k by omega) (by omega) h.symm), ← List.getD_eq_getElem?_getD]
      exact plF_at l n d k (by omega) q (by omega)
/-- what stands behind in the later order has been swapped -/
theorem place_gt (l : List Mo) (n d m e : Int) {i j : Nat} (hij : i < j) (hj : j < l.length) :
    decide ((plF (ordF l m e) l.length l.length).getD ((ordF l n d).getD i 0) 0 > (plF (ordF l m e) l.length l.length).getD ((ordF l n d).getD j 0) 0) = isSw l n d m e ((ordF l n d).getD i 0) ((ordF l n d).getD j 0) := by
  have h1 := ordF_lt l n d hij hj
  have h2 := ordF_ne l n d hij hj
  have ha := ordF_at_lt l n d i (by omega)
  have hb := ordF_at_lt l n d j hj
  unfold isSw
  rw [h1, Bool.true_and]
  generalize (ordF l n d).getD i 0 = a at *
  generalize (ordF l n d).getD j 0 = b at *
  obtain ⟨qa, hqa, ea⟩ := ordF_idx l m e ha
  obtain ⟨qb, hqb, eb⟩ := ordF_idx l m e hb
  have pa := plF_at l m e l.length (Nat.le_refl _) qa hqa
  have pb := plF_at l m e l.length (Nat.le_refl _) qb hqb
  rw [ea] at pa
  rw [eb] at pb
  rw [pa, pb]
  rcases Nat.lt_trichotomy qa qb with h | h | h
  · have := ordF_lt l m e h hqb
    rw [ea, eb] at this
    rw [this]
    exact decide_eq_false (by omega)
  · subst h; rw [ea] at eb; exact absurd eb h2
  · have := ordF_lt l m e h hqa
    rw [ea, eb] at this
    rw [lessK_asymm this]
    exact decide_eq_true h
/-- the swaps, as they are found -/
def swAt (l : List Mo) (n d m e : Int) (i j : Nat) : Option Sw :=
  if isSw l n d m e ((ordF l n d).getD i 0) ((ordF l n d).getD j 0) then some (sw l ((ordF l n d).getD i 0) ((ordF l n d).getD j 0)) else none
def rowP (l : List Mo) (n d m e : Int) (i k : Nat) : List Sw := (List.range k).filterMap fun q => swAt l n d m e i (i + 1 + q)
def colP (l : List Mo) (n d m e : Int) (k : Nat) : List Sw := (List.range k).flatMap fun i => rowP l n d m e i (l.length - (i + 1))
theorem rowP_succ (l : List Mo) (n d m e : Int) (i k : Nat) : rowP l n d m e i (k + 1) = rowP l n d m e i k ++ (swAt l n d m e i (i + 1 + k)).toList := by
  unfold rowP
  rw [List.range_succ, List.filterMap_append]
  cases h : swAt l n d m e i (i + 1 + k) <;> simp [h]
theorem colP_succ (l : List Mo) (n d m e : Int) (k : Nat) : colP l n d m e (k + 1) = colP l n d m e k ++ rowP l n d m e k (l.length - (k + 1)) := by
  unfold colP
  rw [List.range_succ, List.flatMap_append]
  simp
theorem mem_colP (l : List Mo) (n d m e : Int) (x : Sw) : x ∈ colP l n d m e l.length ↔ ∃ a b, a < l.length ∧ b < l.length ∧ isSw l n d m e a b = true ∧ x = sw l a b := by
  unfold colP rowP
  simp only [List.mem_flatMap, List.mem_range, List.mem_filterMap]
  constructor
  · rintro ⟨i, hi, q, hq, h⟩
    unfold swAt at h
    split at h
    · rename_i hs
      injection h with h
      exact ⟨_, _, ordF_at_lt l n d i hi, ordF_at_lt l n d (i + 1 + q) (by omega), hs, h.symm⟩
    · cases h
  · rintro ⟨a, b, ha, hb, hs, rfl⟩
    obtain ⟨i, hi, rfl⟩ := ordF_idx l n d ha
    obtain ⟨j, hj, rfl⟩ := ordF_idx l n d hb
    have hl : lessK l n d ((ordF l n d).getD i 0) ((ordF l n d).getD j 0) = true := by
      unfold isSw at hs
      rw [Bool.and_eq_true] at hs
      exact hs.1
    have hij := ordF_pos l n d hi hj hl
    refine ⟨i, hi, j - (i + 1), by omega, ?_⟩
    rw [show i + 1 + (j - (i + 1)) = j by omega]
    unfold swAt
    rw [if_pos hs]
theorem colP_ne (l : List Mo) (n d m e : Int) : (colP l n d m e l.length).Pairwise (fun x y => x.2.2 ≠ y.2.2) := by
  unfold colP
  rw [List.pairwise_flatMap]
  have hrow : ∀ i k (x : Sw), i < l.length → i + k < l.length → x ∈ rowP l n d m e i k → ∃ j, i < j ∧ j ≤ i + k ∧ x.2.2 = ((((ordF l n d).getD i 0 : Nat) : Int), (((ordF l n d).getD j 0 : Nat) : Int)) := by
    intro i k x hi hk hx
    unfold rowP at hx
    rw [List.mem_filterMap] at hx
    obtain ⟨q, hq, h⟩ := hx
    rw [List.mem_range] at hq
    unfold swAt at h
    split at h
    · injection h with h
      subst h
      exact ⟨i + 1 + q, by omega, by omega, rfl⟩
    · cases h
  refine ⟨fun i hi => ?_, ?_⟩
  · rw [List.mem_range] at hi
    have : ∀ k, i + k < l.length → (rowP l n d m e i k).Pairwise (fun x y => x.2.2 ≠ y.2.2) := by
      intro k
      induction k with
      | zero => intro _; simp [rowP]
      | succ k ih =>
        intro hk
        rw [rowP_succ, List.pairwise_append]
        refine ⟨ih (by omega), ?_, ?_⟩
        · cases swAt l n d m e i (i + 1 + k) <;> simp
        · intro x hx y hy
          obtain ⟨j, h1, h2, h3⟩ := hrow i k x hi (by omega) hx
          rw [Option.mem_toList] at hy
          unfold swAt at hy
          split at hy
          · injection hy with hy
            subst hy
            rw [h3]
            intro h
            have h4 := congrArg (·.2) h
            simp only [sw] at h4
            exact ordF_ne l n d (show j < i + 1 + k by omega) (by omega) (by omega)
          · cases hy
    exact this _ (by omega)
  · rw [List.pairwise_iff_getElem]
    intro i j hi hj hij x hx y hy
    simp at hi hj hx hy
    obtain ⟨j1, h1, h2, h3⟩ := hrow i _ x hi (by omega) hx
    obtain ⟨j2, h4, h5, h6⟩ := hrow j _ y hj (by omega) hy
    rw [h3, h6]
    intro h
    have h7 := congrArg (·.1) h
    simp only at h7
    exact ordF_ne l n d hij hj (by omega)
theorem isSw_ne {l : List Mo} {n d m e : Int} {a b : Nat} (h : isSw l n d m e a b = true) : a ≠ b := fun h1 => by
  subst h1
  unfold isSw at h
  rw [lessK_irrefl] at h
  cases h
theorem sw_ok {l : List Mo} {n d m e : Int} {a b : Nat} (hm : mB l = true) (hd : 1 ≤ d) (he : 1 ≤ e) (hn : 0 ≤ n) (hle : n * e ≤ m * d) (h : isSw l n d m e a b = true) : okE (sw l a b) := by
  have := sw_meets hd he hn hle h
  exact (mt_mk (mB_at hm _) (mB_at hm _) (show (mg l a).2 ≠ (mg l b).2 by omega)).2.2.2
theorem colP_ok {l : List Mo} {n d m e : Int} (hm : mB l = true) (hd : 1 ≤ d) (he : 1 ≤ e) (hn : 0 ≤ n) (hle : n * e ≤ m * d) : ∀ x ∈ colP l n d m e l.length, okE x := fun x hx => by
  obtain ⟨a, b, _, _, hs, rfl⟩ := (mem_colP l n d m e x).1 hx
  exact sw_ok hm hd he hn hle hs
/-- a strictly ordered list is told by its members -/
theorem sorted_ext : ∀ {L M : List Sw}, (∀ x ∈ L, okE x) → L.Pairwise (fun x y => earl x y = true) → M.Pairwise (fun x y => earl x y = true) → (∀ x, x ∈ L ↔ x ∈ M) → L = M
  | [], M, _, _, _, h => by
    cases M with
    | nil => rfl
    | cons y M => exact absurd ((h y).2 List.mem_cons_self) (by simp)
  | x :: L, [], _, _, _, h => absurd ((h x).1 List.mem_cons_self) (by simp)
  | x :: L, y :: M, hok, hL, hM, h => by
    rw [List.pairwise_cons] at hL hM
    have hxy : x = y := by
      rcases List.mem_cons.1 ((h x).1 List.mem_cons_self) with e | hx
      · exact e
      · rcases List.mem_cons.1 ((h y).2 List.mem_cons_self) with e | hy
        · exact e.symm
        · have h1 := hL.1 y hy
          rw [earl_asymm (hM.1 x hx)] at h1; cases h1
    subst hxy
    congr 1
    refine sorted_ext (fun z hz => hok z (List.mem_cons_of_mem _ hz)) hL.2 hM.2 (fun z => ?_)
    constructor
    · intro hz
      rcases List.mem_cons.1 ((h z).1 (List.mem_cons_of_mem _ hz)) with e | h1
      · subst e; have := hL.1 z hz; rw [earl_irrefl] at this; cases this
      · exact h1
    · intro hz
      rcases List.mem_cons.1 ((h z).2 (List.mem_cons_of_mem _ hz)) with e | h1
      · subst e; have := hM.1 z hz; rw [earl_irrefl] at this; cases this
      · exact h1
/-- the swaps, in their order -/
def insE (x : Sw) : List Sw → List Sw
  | [] => [x]
  | y :: r => if earl x y then x :: y :: r else y :: insE x r
theorem insE_perm (x : Sw) : ∀ L, (insE x L).Perm (x :: L)
  | [] => List.Perm.refl _
  | y :: r => by
    unfold insE
    split
    · exact List.Perm.refl _
    · exact ((insE_perm x r).cons y).trans (List.Perm.swap x y r)
theorem insE_sorted (x : Sw) (hx : okE x) : ∀ L, (∀ y ∈ L, okE y) → L.Pairwise (fun x y => earl y x = false) → (insE x L).Pairwise (fun x y => earl y x = false)
  | [], _, _ => by simp [insE]
  | y :: r, hok, h => by
    rw [List.pairwise_cons] at h
    unfold insE
    split
    · rename_i hc
      rw [List.pairwise_cons]
      refine ⟨fun z hz => ?_, List.pairwise_cons.2 h⟩
      rcases List.mem_cons.1 hz with e | hz
      · rw [e]; exact earl_asymm hc
      · exact earl_ntrans (okE_pos (hok z (List.mem_cons_of_mem _ hz))) (okE_pos (hok y List.mem_cons_self)) (okE_pos hx) (h.1 z hz) (earl_asymm hc)
    · rename_i hc
      rw [List.pairwise_cons]
      refine ⟨fun z hz => ?_, insE_sorted x hx r (fun z hz => hok z (List.mem_cons_of_mem _ hz)) h.2⟩
      rcases List.mem_cons.1 ((insE_perm x r).mem_iff.1 hz) with e | hz
      · rw [e]; simpa using hc
      · exact h.1 z hz
def sortE (L : List Sw) : List Sw := L.foldr insE []
theorem sortE_perm : ∀ L, (sortE L).Perm L
  | [] => List.Perm.refl _
  | x :: L => (insE_perm x _).trans ((sortE_perm L).cons x)
theorem sortE_sorted : ∀ L, (∀ y ∈ L, okE y) → (sortE L).Pairwise (fun x y => earl y x = false)
  | [], _ => List.Pairwise.nil
  | x :: L, h => insE_sorted x (h x List.mem_cons_self) _ (fun y hy => h y (List.mem_cons_of_mem _ ((sortE_perm L).mem_iff.1 hy))) (sortE_sorted L (fun y hy => h y (List.mem_cons_of_mem _ hy)))
def swF (l : List Mo) (n d m e : Int) : List Sw := sortE (colP l n d m e l.length)
theorem mem_swF (l : List Mo) (n d m e : Int) (x : Sw) : x ∈ swF l n d m e ↔ ∃ a b, a < l.length ∧ b < l.length ∧ isSw l n d m e a b = true ∧ x = sw l a b := by
  rw [← mem_colP]
  exact (sortE_perm _).mem_iff
/-- ordered, not strictly, and no two alike: strictly -/
theorem strict_of {L : List Sw} (h1 : L.Pairwise (fun x y => earl y x = false)) (h2 : L.Pairwise (fun x y => x.2.2 ≠ y.2.2)) : L.Pairwise (fun x y => earl x y = true) := by
  refine (h1.and h2).imp ?_
  intro x y ⟨a, b⟩
  rcases earl_tot x y b with h | h
  · exact h
  · rw [h] at a; cases a
theorem ne_perm {L M : List Sw} (hp : L.Perm M) (h : M.Pairwise (fun x y => x.2.2 ≠ y.2.2)) : L.Pairwise (fun x y => x.2.2 ≠ y.2.2) :=
  (hp.pairwise_iff (fun h => h.symm)).2 h
theorem swF_sorted {l : List Mo} {n d m e : Int} (hm : mB l = true) (hd : 1 ≤ d) (he : 1 ≤ e) (hn : 0 ≤ n) (hle : n * e ≤ m * d) : (swF l n d m e).Pairwise (fun x y => earl x y = true) :=
  strict_of (sortE_sorted _ (colP_ok hm hd he hn hle)) (ne_perm (sortE_perm _) (colP_ne l n d m e))
theorem swF_ok {l : List Mo} {n d m e : Int} (hm : mB l = true) (hd : 1 ≤ d) (he : 1 ≤ e) (hn : 0 ≤ n) (hle : n * e ≤ m * d) : ∀ x ∈ swF l n d m e, okE x := fun x hx => colP_ok hm hd he hn hle x ((sortE_perm _).mem_iff.1 hx)
/-- what is in order and holds the same is the list of swaps -/
theorem swF_uniq {l : List Mo} {n d m e : Int} (hm : mB l = true) (hd : 1 ≤ d) (he : 1 ≤ e) (hn : 0 ≤ n) (hle : n * e ≤ m * d) {L : List Sw} (hp : L.Perm (colP l n d m e l.length)) (hs : L.Pairwise (fun x y => earl y x = false)) : L = swF l n d m e :=
  sorted_ext (fun x hx => colP_ok hm hd he hn hle x (hp.mem_iff.1 hx)) (strict_of hs (ne_perm hp (colP_ne l n d m e))) (swF_sorted hm hd he hn hle) (fun x => by rw [hp.mem_iff]; exact (sortE_perm _).mem_iff.symm)

end Go.Proofs.Ytncnojhbdkhcjaa

/- Advance that fails. -/
namespace Go.Proofs.Ytncnojhbdkhcjaa
open Go.RowKit Go.Hw Go
set_option linter.unusedVariables false
set_option linter.unusedSimpArgs false
set_option maxRecDepth 100000 in
set_option maxHeartbeats 2000000 in
theorem adv_nil (m e0 : Int) (w : World) : Calls Try.prog 33 #[.pointer none, .agg #[.int .i64 m, .int .i64 e0]] w fun e w' => e = .returned (.tuple #[.slice none 0 0, .int .i64 1]) ∧ Ext w w' := by
  have HZ := Lib.hid ((Upd.refl (fun _ => False) w).alloc (.cells #[.int .i64 m, .int .i64 e0] 25))
  go_enter Try.func33, Try.ntmps33
  go_wp2_with fail
  go_ret2
  exact ⟨rfl, HZ.out⟩
set_option maxRecDepth 100000 in
set_option maxHeartbeats 2000000 in
theorem adv_bad (w : World) (kb : Nat) (m e0 : Int) (m0 : -9223372036854775808 ≤ m) (m1 : m ≤ 9223372036854775807) (e0l : -9223372036854775808 ≤ e0) (e0h : e0 ≤ 9223372036854775807) (ht : timeB m e0 = false) :
    Calls Try.prog 33 #[.pointer (some ⟨kb, 0, none⟩), .agg #[.int .i64 m, .int .i64 e0]] w fun e w' => e = .returned (.tuple #[.slice none 0 0, .int .i64 1]) ∧ Ext w w' := by
  have HZ := Lib.hid ((Upd.refl (fun _ => False) w).alloc (.cells #[.int .i64 m, .int .i64 e0] 25))
  have hb := alloc0 w (.cells #[.int .i64 m, .int .i64 e0] 25)
  have c0 := cellRow hb 0 (.int .i64 m) rfl
  have c1 := cellRow hb 1 (.int .i64 e0) rfl
  have HTT : Hid (∀ W, Calls Try.prog 47 #[.agg #[.int .i64 m, .int .i64 e0]] W fun e w' => e = .returned (.bool false) ∧ Ext W w') := Lib.hid (fun W => by have := time_x m e0 W m0 m1 e0l e0h; rw [ht] at this; exact this)
  clear hb ht
  go_enter Try.func33, Try.ntmps33
  go_wp2_with fail
  refine (HTT.out _).mono ?_
  rintro e w4 ⟨rfl, hw4⟩
  have H4 := Lib.hid (HZ.out.ext hw4)
  clear hw4 c0 c1
  go_wp2_with fail
  go_ret2
  exact ⟨rfl, H4.out⟩
set_option maxRecDepth 100000 in
set_option maxHeartbeats 2000000 in
theorem adv_early (w : World) (kb : Nat) (mv ov : Value) (l : List Mo) (n d m e0 : Int) (h : LiR w kb mv ov l n d) (ht : timeB m e0 = true) (hlt : m * d < n * e0) :
    Calls Try.prog 33 #[.pointer (some ⟨kb, 0, none⟩), .agg #[.int .i64 m, .int .i64 e0]] w fun e w' => e = .returned (.tuple #[.slice none 0 0, .int .i64 29]) ∧ Ext w w' := by
  obtain ⟨hv, hn⟩ := (timeB_iff _ _).1 ht
  obtain ⟨vn, vd, vd'⟩ := vf_bd hv
  have HZ := Lib.hid ((Upd.refl (fun _ => False) w).alloc (.cells #[.int .i64 m, .int .i64 e0] 25))
  have HB := Lib.hid (And.intro (alloc0 w (.cells #[.int .i64 m, .int .i64 e0] 25)) (allocOld h.cell (.cells #[.int .i64 m, .int .i64 e0] 25)))
  have HTT : Hid (∀ W, Calls Try.prog 47 #[.agg #[.int .i64 m, .int .i64 e0]] W fun e w' => e = .returned (.bool true) ∧ Ext W w') := Lib.hid (fun W => by have := time_x m e0 W (by omega) (by omega) (by omega) (by omega); rw [ht] at this; exact this)
  have HBF : Hid (∀ W, Calls Try.prog 55 #[.agg #[.int .i64 m, .int .i64 e0], .agg #[.int .i64 n, .int .i64 d]] W fun e w' => e = .returned (.bool true) ∧ Ext W w') := Lib.hid (fun W => by have := before_x m e0 n d W hv h.okt; rw [decide_eq_true hlt] at this; exact this)
  have c0 := cellRow HB.out.1 0 (.int .i64 m) rfl
  have c1 := cellRow HB.out.1 1 (.int .i64 e0) rfl
  clear ht hv hn vn vd vd' h hlt
  go_enter Try.func33, Try.ntmps33
  go_wp2_with fail
  refine (HTT.out _).mono ?_
  rintro e w4 ⟨rfl, hw4⟩
  have H4 := Lib.hid (HZ.out.ext hw4)
  have hb4 := hw4.heap HB.out.1 (fun h => h)
  have hk4 := hw4.heap HB.out.2 (fun h => h)
  have d0 := cellRow hb4 0 (.int .i64 m) rfl
  have d1 := cellRow hb4 1 (.int .i64 e0) rfl
  have d2 := cellRow hk4 1 (.int .i64 n) rfl
  have d3 := cellRow hk4 2 (.int .i64 d) rfl
  have x0 := fun x : XW w4 => x.ext.cell d0 (fun h => h)
  have x1 := fun x : XW w4 => x.ext.cell d1 (fun h => h)
  have x2 := fun x : XW w4 => x.ext.cell d2 (fun h => h)
  have x3 := fun x : XW w4 => x.ext.cell d3 (fun h => h)
  have hrf := Upd.refl (fun _ => False) w4
  clear hw4 c0 c1 hb4 hk4 d0 d1 d2 d3
  go_wp2_with fail
  refine wp_region_ext w4 (by assumption) (by kernel_rfl) (by kernel_rfl) ?_
  repeat (first | go_big_quiet_skip | (go_big_quiet_want; go_big_quiet_op; first | go_big_quiet_on | (apply Exists.intro; refine ⟨fun x => ?_, ?_⟩; (go_at_call 55; exact XW.call (HBF.out x.val)); go_big_quiet_on)))
  refine wpQuiet_nil ?_
  rintro w6 ⟨⟨_, hyw6⟩, rfl⟩
  try dsimp only
  go_wp2_with fail
  go_ret2
  exact ⟨rfl, H4.out.ext hyw6⟩

end Go.Proofs.Ytncnojhbdkhcjaa

/- Advance. -/
namespace Go.Proofs.Ytncnojhbdkhcjaa
open Go.RowKit Go.Hw Go
set_option linter.unusedVariables false
set_option linter.unusedSimpArgs false

theorem made_list (n : Nat) : (madeCells #[Value.int .i64 0] n).toList = iCells (List.replicate n 0) := by
  apply List.ext_getElem?
  intro i
  unfold iCells
  rw [Array.getElem?_toList]
  by_cases h : i < n
  · rw [made_get _ _ _ h]
    simp [h]
  · rw [Array.getElem?_eq_none (by rw [size_madeCells]; omega), List.getElem?_eq_none (by simp; omega)]
theorem own_made (w : World) (n : Nat) (hn : n ≤ 100000000) : (w.alloc (.cells (madeCells #[Value.int .i64 0] n) 3)).ownsRow w.heap.size 3 1 (.slice (some ⟨w.heap.size, 0, none⟩) n n) n (iCells (List.replicate n 0)) := by
  have := World.ownsRow_lit (base := w.heap.size) (e := 3) (size := 1) w (madeCells #[Value.int .i64 0] n) n (Nat.le_refl _) (by unfold maxLen; omega) (by rw [size_madeCells, Nat.mul_one])
  rw [made_list] at this
  exact this

theorem swAt_ok {l : List Mo} {n d m e : Int} {i j : Nat} {x : Sw} (hm : mB l = true) (hd : 1 ≤ d) (he : 1 ≤ e) (hn : 0 ≤ n) (hle : n * e ≤ m * d) (h : swAt l n d m e i j = some x) : okE x := by
  unfold swAt at h
  split at h
  · rename_i hs
    injection h with h
    subst h
    exact sw_ok hm hd he hn hle hs
  · cases h
theorem row_ok {l : List Mo} {n d m e : Int} {i k : Nat} (hm : mB l = true) (hd : 1 ≤ d) (he : 1 ≤ e) (hn : 0 ≤ n) (hle : n * e ≤ m * d) : ∀ x ∈ rowP l n d m e i k, okE x := fun x hx => by
  unfold rowP at hx
  rw [List.mem_filterMap] at hx
  obtain ⟨q, _, h⟩ := hx
  exact swAt_ok hm hd he hn hle h
theorem col_ok {l : List Mo} {n d m e : Int} {k : Nat} (hm : mB l = true) (hd : 1 ≤ d) (he : 1 ≤ e) (hn : 0 ≤ n) (hle : n * e ≤ m * d) : ∀ x ∈ colP l n d m e k, okE x := fun x hx => by
  unfold colP at hx
  rw [List.mem_flatMap] at hx
  obtain ⟨i, _, h⟩ := hx
  exact row_ok hm hd he hn hle x h
theorem row_len (l : List Mo) (n d m e : Int) (i k : Nat) : (rowP l n d m e i k).length ≤ k := by
  unfold rowP
  exact Nat.le_trans (List.length_filterMap_le _ _) (by simp)
theorem col_len (l : List Mo) (n d m e : Int) : ∀ k, (colP l n d m e k).length ≤ k * l.length
  | 0 => by simp [colP]
  | k + 1 => by
    rw [colP_succ, List.length_append, Nat.add_mul]
    have h1 := row_len l n d m e k (l.length - (k + 1))
    have h2 := col_len l n d m e k
    omega
theorem okS_of {M L : List Sw} (hp : M.Perm L) (h : ∀ x ∈ L, okE x) : okS M := fun k hk => by
  have hmem : sg4 M k ∈ M := by unfold sg4; rw [List.getD_eq_getElem?_getD, List.getElem?_eq_getElem hk]; exact List.getElem_mem hk
  exact h _ (hp.mem_iff.1 hmem)
theorem iCells_drop (L : List Nat) (k : Nat) : (iCells L).drop (k * 1) = iCells (L.drop k) := by
  unfold iCells
  rw [Nat.mul_one, List.map_drop, List.map_drop]
theorem getD_drop (L : List Nat) (k q : Nat) : (L.drop k).getD q 0 = L.getD (k + q) 0 := by
  simp [List.getD_eq_getElem?_getD, List.getElem?_drop]
theorem col_bound (l : List Mo) (n d m e : Int) (i q : Nat) (hl : l.length ≤ 64) (hi : i < l.length) (hq : q ≤ 64) : (colP l n d m e i ++ rowP l n d m e i q).length ≤ 500000 := by
  rw [List.length_append]
  have h1 := row_len l n d m e i q
  have h2 := col_len l n d m e i
  have h3 : i * l.length ≤ 64 * 64 := Nat.mul_le_mul (by omega) hl
  omega
set_option maxRecDepth 100000 in
set_option maxHeartbeats 2000000 in
theorem adv_ok (w : World) (kb : Nat) (mv ov : Value) (l : List Mo) (n d m e0 : Int) (h : LiR w kb mv ov l n d) (ht : timeB m e0 = true) (hle : n * e0 ≤ m * d) :
    Calls Try.prog 33 #[.pointer (some ⟨kb, 0, none⟩), .agg #[.int .i64 m, .int .i64 e0]] w fun e w' => ∃ r ov', e = .returned (.tuple #[r, .int .i64 0]) ∧ w'.ownsRow w.heap.size 51 4 r (swF l n d m e0).length (sCells (swF l n d m e0)) ∧ LiR w' kb mv ov' l m e0 ∧ (∀ g, ov'.ownBlock = some g → w.heap.size ≤ g) ∧ Upd (fun k => k = kb) w w' := by
  obtain ⟨hv, hn⟩ := (timeB_iff _ _).1 ht
  obtain ⟨vn, vd, vd'⟩ := vf_bd hv
  have HZ := Lib.hid ((Upd.refl (fun _ => False) w).alloc (.cells #[.int .i64 m, .int .i64 e0] 25))
  have HB := Lib.hid (And.intro (alloc0 w (.cells #[.int .i64 m, .int .i64 e0] 25)) (allocOld h.cell (.cells #[.int .i64 m, .int .i64 e0] 25)))
  have HTT : Hid (∀ W, Calls Try.prog 47 #[.agg #[.int .i64 m, .int .i64 e0]] W fun e w' => e = .returned (.bool true) ∧ Ext W w') := Lib.hid (fun W => by have := time_x m e0 W (by omega) (by omega) (by omega) (by omega); rw [ht] at this; exact this)
  have HBF : Hid (∀ W, Calls Try.prog 55 #[.agg #[.int .i64 m, .int .i64 e0], .agg #[.int .i64 n, .int .i64 d]] W fun e w' => e = .returned (.bool false) ∧ Ext W w') := Lib.hid (fun W => by have := before_x m e0 n d W hv h.okt; rw [decide_eq_false (by omega)] at this; exact this)
  have HORD := Lib.hid (fun W (hW : Ext w W) => order_x l m e0 (fun k => k < w.heap.size) mv W (by have := h.len; omega) h.okm hv (h.mor.ext hW) (fun k hk => Nat.lt_of_lt_of_le hk hW.size))
  have HLI := Lib.hid h
  have HTV := Lib.hid (And.intro hv hn)
  have HLE := Lib.hid hle
  obtain ⟨am, cm, hmv⟩ := own_shape h.mot
  obtain ⟨ao, co, hov⟩ := own_shape h.ord
  have c0 := cellRow HB.out.1 0 (.int .i64 m) rfl
  have c1 := cellRow HB.out.1 1 (.int .i64 e0) rfl
  have hl64 := h.len
  subst hmv
  subst hov
  clear ht hv hn vn vd vd' h hle
  go_enter Try.func33, Try.ntmps33
  go_wp2_with fail
  refine (HTT.out _).mono ?_
  rintro e w4 ⟨rfl, hw4⟩
  have H4 := Lib.hid (HZ.out.ext hw4)
  have hb4 := hw4.heap HB.out.1 (fun h => h)
  have hk4 := hw4.heap HB.out.2 (fun h => h)
  have d0 := cellRow hb4 0 (.int .i64 m) rfl
  have d1 := cellRow hb4 1 (.int .i64 e0) rfl
  have d2 := cellRow hk4 1 (.int .i64 n) rfl
  have d3 := cellRow hk4 2 (.int .i64 d) rfl
  have x0 := fun x : XW w4 => x.ext.cell d0 (fun h => h)
  have x1 := fun x : XW w4 => x.ext.cell d1 (fun h => h)
  have x2 := fun x : XW w4 => x.ext.cell d2 (fun h => h)
  have x3 := fun x : XW w4 => x.ext.cell d3 (fun h => h)
  have hrf := Upd.refl (fun _ => False) w4
  have HB4 := Lib.hid (And.intro hb4 hk4)
  clear hw4 c0 c1 hb4 hk4 d0 d1 d2 d3
  go_wp2_with fail
  refine wp_region_ext w4 (by assumption) (by kernel_rfl) (by kernel_rfl) ?_
  repeat (first | go_big_quiet_skip | (go_big_quiet_want; go_big_quiet_op; first | go_big_quiet_on | (apply Exists.intro; refine ⟨fun x => ?_, ?_⟩; (go_at_call 55; exact XW.call (HBF.out x.val)); go_big_quiet_on)))
  refine wpQuiet_nil ?_
  rintro w6 ⟨⟨_, hyw6⟩, rfl⟩
  try dsimp only
  have H6 := Lib.hid (H4.out.ext hyw6)
  have hb6 := hyw6.heap HB4.out.1 (fun h => h)
  have hk6 := hyw6.heap HB4.out.2 (fun h => h)
  have d0 := cellRow hb6 0 (.int .i64 m) rfl
  have d1 := cellRow hb6 1 (.int .i64 e0) rfl
  have d2 := cellRow hk6 0 (.slice am l.length cm) rfl
  have HB6 := Lib.hid (And.intro hb6 hk6)
  clear hyw6 hb6 hk6 x0 x1 x2 x3 hrf HBF HTT HB HB4
  have x0 := fun x : XW w6 => x.ext.cell d0 (fun h => h)
  have x1 := fun x : XW w6 => x.ext.cell d1 (fun h => h)
  have x2 := fun x : XW w6 => x.ext.cell d2 (fun h => h)
  go_wp2_with fail
  refine wp_region_par (α := Option Addr × Nat) 7 [] [[], [0], [0, 1], [0, 1, 2], [], [0, 1, 2, 3, 4], [0, 1, 2, 3, 4, 5]]
    [none, none, none, none, none, some ⟨fun x : Option Addr × Nat => Value.slice x.1 l.length x.2, fun x W => W.ownsRow w6.heap.size 3 1 (.slice x.1 l.length x.2) l.length (iCells (ordF l m e0)), fun x W W' h hE => own_kept h hE (fun _ _ h => h)⟩, none]
    [false, false, false, false, false, true, false] (by kernel_rfl) (by kernel_rfl) rfl (fun _ _ d _ _ h => by cases d <;> exact h) ?_
  simp only [List.take_succ_cons, List.take_zero, pickO, List.getElem?_cons_zero, List.getElem?_cons_succ]
  iterate 5 (refine can_pure0 rfl (fun K hK => ?_); go_simp; refine hK _ ?_; clear hK K)
  refine can_mem _ rfl (by go_simp) (fun W hW hG K hK => ?_) (fun K x9 hK => ?_)
  · go_simp
    refine (HORD.out W (H6.out.ext hW)).mono ?_
    rintro e w' ⟨r, rfl, hO, hE⟩
    obtain ⟨a9, c9, hr9⟩ := own_shape hO
    subst hr9
    exact hK (a9, c9) w' hE (own_base hO hW.size)
  refine hK _ ?_; clear hK K
  dsimp only
  refine can_pure0 rfl (fun K hK => ?_); go_simp; refine hK _ ?_; clear hK K
  refine can_end (fun w8 hW hG => ?_)
  have hO8 := hG _ (List.mem_append_right _ (List.mem_singleton.2 rfl))
  obtain ⟨a9, c9⟩ := x9
  have H8 := Lib.hid (H6.out.ext hW)
  have HO8 := Lib.hid (own_base hO8 H6.out.size)
  have HB8 := Lib.hid (And.intro (hW.heap HB6.out.1 (fun h => h)) (hW.heap HB6.out.2 (fun h => h)))
  have H8S : Hid (w.heap.size < w8.heap.size) := Lib.hid (Array.getElem?_eq_some_iff.1 HB8.out.1).1
  clear hW hG hO8 x0 x1 x2 d0 d1 d2 HB6 HORD
  simp only [wpMix]
  obtain ⟨i0', hi, hz0, hz1, hz2⟩ := info_parts info3'
  have hmk := fun W => made_one Try.prog 33 3 i0' (.int .i64 0) Try.underlying33 hi hz0 hz1 rfl (by rw [hz2]; omega) l.length (by omega) W
  go_wp2_with fail
  have HB9 := Lib.hid (And.intro (allocOld HB8.out.1 (.cells (madeCells #[.int .i64 0] l.length) 3)) (allocOld HB8.out.2 (.cells (madeCells #[.int .i64 0] l.length) 3)))
  have H9 := Lib.hid (H8.out.alloc (.cells (madeCells #[.int .i64 0] l.length) 3))
  have HO9 := Lib.hid (World.ownsRow.alloc HO8.out (.cells (madeCells #[.int .i64 0] l.length) 3))
  have HP9 := Lib.hid (own_made w8 l.length (by omega))
  have HS9 : Hid (w8.heap.size < (w8.alloc (.cells (madeCells #[.int .i64 0] l.length) 3)).heap.size) := Lib.hid (by simp)
  have HS8 := Lib.hid H8.out.size
  have HLTN := Lib.hid HO8.out.lt
  clear hmk hi hz0 hz1 hz2 HB8 HO8
  generalize (w8.alloc (.cells (madeCells #[.int .i64 0] l.length) 3)) = w9 at *
  go_loopg [44] l.length (fun gk iv wr => ∃ k : Nat, iv = .int .i64 (k : Int) ∧ gk = l.length - k ∧ k ≤ l.length ∧ Hid (Upd (fun j => j = w8.heap.size) w9 wr) ∧ Hid (wr.ownsRow w8.heap.size 3 1 (.slice (some ⟨w8.heap.size, 0, none⟩) l.length l.length) l.length (iCells (plF (ordF l m e0) l.length k))))
  case atStart => exact ⟨0, rfl, rfl, Nat.zero_le _, Lib.hid (Upd.refl _ _), HP9⟩
  case round =>
    obtain ⟨k, rfl, rfl, hk, HE, HP⟩ := hrel
    by_cases hlt : k < l.length
    · have hO := own_kept HO9.out HE.out (fun g hg e => by have := (HLTN.out g hg).2; omega)
      obtain ⟨g9, c9', hv9⟩ := own_some hO (by omega)
      injection hv9 with e1 e2 e3
      subst e1
      clear e2 e3
      have o0 := own_cell hO k (by omega)
      rw [iCells_at _ _ (by rw [ordF_len]; omega)] at o0
      have hA := ordF_at_lt l m e0 k hlt
      have p0 := own_cell HP.out ((ordF l m e0).getD k 0) hA
      rw [iCells_at _ _ (by rw [plF_len]; exact hA)] at p0
      obtain ⟨cur, hcur⟩ := own_block HP.out
      have m0 := frozenRow hcur ((ordF l m e0).getD k 0)
      have HPS := Lib.hid (own_set HP.out ((ordF l m e0).getD k 0) (.int .i64 (k : Int)) hA)
      rw [iCells_set, ← plF_succ] at HPS
      have z0 : (0 : Int) ≤ (k : Int) := by omega
      have z1 : (k : Int) < (l.length : Int) := by omega
      clear hO hcur
      generalize (plF (ordF l m e0) l.length k).getD ((ordF l m e0).getD k 0) 0 = pv at *
      generalize (ordF l m e0).getD k 0 = A at *
      have z2 : (0 : Int) ≤ (A : Int) := by omega
      have z3 : (A : Int) < (l.length : Int) := by omega
      go_wp2_with fail
      have HE9 := Lib.hid (HE.out.setCell (p := ⟨w8.heap.size, A, none⟩) (.inl rfl) (.int .i64 (k : Int)))
      go_roundg (l.length - (k + 1))
      case measure => omega
      case rel => exact ⟨k + 1, by go_num, rfl, by omega, HE9, HPS⟩
    · obtain rfl : k = l.length := by omega
      obtain ⟨wq, hwq⟩ : ∃ wa, wa = wr := ⟨_, rfl⟩
      subst hwq
      have HU : Hid (Ext w wq) := Lib.hid (H9.out.trans' HE.out (fun i hi e => by have := HS8.out; omega))
      have HUE := Lib.hid HU.out.size
      have HNX := Lib.hid (own_kept HO9.out HE.out (fun g hg e => by have := (HLTN.out g hg).2; omega))
      have HBR := Lib.hid (And.intro (HE.out.heap HB9.out.1 (by have h1 := (Array.getElem?_eq_some_iff.1 HB9.out.1).1; have h2 := HZ.out.size; simp at h2; have h4 := H8S.out; omega)) (HE.out.heap HB9.out.2 (by have h1 := (Array.getElem?_eq_some_iff.1 HLI.out.cell).1; have h3 := HS8.out; omega)))
      have HQ0 : Hid (QR wq.heap.size ((wq.alloc (.cells #[] 51)).alloc (.cells #[.slice (some ⟨wq.heap.size, 0, none⟩) 0 0] 101)) (wq.heap.size + 1) (.slice (some ⟨wq.heap.size, 0, none⟩) 0 0) []) := Lib.hid ⟨Nat.le_succ _, alloc_at (wq.alloc (.cells #[] 51)) (.cells #[.slice (some ⟨wq.heap.size, 0, none⟩) 0 0] 101) (n := wq.heap.size + 1) (by simp), World.ownsRow.alloc (World.ownsRow_lit (base := wq.heap.size) (e := 51) (size := 4) wq #[] 0 (Nat.le_refl _) (by unfold maxLen; omega) (by simp)) _, fun e => absurd (show wq.heap.size = wq.heap.size + 1 by injection e) (by omega)⟩
      have HU11 : Hid (Ext wq ((wq.alloc (.cells #[] 51)).alloc (.cells #[.slice (some ⟨wq.heap.size, 0, none⟩) 0 0] 101))) := Lib.hid (((Upd.refl (fun _ => False) wq).alloc _).alloc _)
      have ck3 := cellRow (HU11.out.heap HBR.out.2 (fun h => h)) 3 (.slice ao l.length co) rfl
      clear HP9 HO9 HE
      go_wp2_with fail
      generalize ((wq.alloc (.cells #[] 51)).alloc (.cells #[.slice (some ⟨wq.heap.size, 0, none⟩) 0 0] 101)) = w11 at *
      go_loopg [61] l.length (fun gk iv ws => ∃ i : Nat, iv = .int .i64 (i : Int) ∧ gk = l.length - i ∧ i ≤ l.length ∧ Hid (Upd (fun j => wq.heap.size ≤ j) w11 ws) ∧ ∃ (M : List Sw) (v : Value), Hid (M.Perm (colP l n d m e0 i)) ∧ Hid (HeapN earl zS M.length M) ∧ Hid (QR wq.heap.size ws (wq.heap.size + 1) v M))
      case atStart => exact ⟨0, rfl, rfl, Nat.zero_le _, Lib.hid (Upd.refl _ _), [], _, Lib.hid (List.Perm.refl _), Lib.hid heap_nil, HQ0⟩
      case round =>
        obtain ⟨ws, hws⟩ : ∃ wa, wa = wr := ⟨_, rfl⟩
        subst hws
        obtain ⟨i, rfl, rfl, hi, HE, M, v, HPM, HHM, HQ⟩ := hrel
        by_cases hlt : i < l.length
        · have HL1 : Hid (LiR ws kb (.slice am l.length cm) (.slice ao l.length co) l n d) := Lib.hid (by
            have h1 := HLI.out.ext (HU.out.ext HU11.out)
            have hz := HLI.out.mot.lt
            have hz2 := HLI.out.ord.lt
            have hk := (Array.getElem?_eq_some_iff.1 HLI.out.cell).1
            have hu := HUE.out
            exact h1.kept HE.out (by omega) (fun g hg h => by have := (hz g hg).2; omega) (fun g hg h => by have := (hz2 g hg).2; omega))
          have HPL1 : Hid (ws.ownsRow w8.heap.size 3 1 (.slice (some ⟨w8.heap.size, 0, none⟩) l.length l.length) l.length (iCells (plF (ordF l m e0) l.length l.length))) := Lib.hid (by
            have h1 := own_kept HP.out HU11.out (fun _ _ h => h)
            exact own_kept h1 HE.out (fun g hg h => by have := (HP.out.lt g hg).2; omega))
          obtain ⟨go, co', hvo⟩ := own_some HL1.out.ord (by omega)
          injection hvo with e1 e2 e3
          subst e1
          clear e2 e3
          have o0 := own_cell HL1.out.ord i (by omega)
          rw [iCells_at _ _ (by rw [ordF_len]; omega)] at o0
          have ck := cellRow HL1.out.cell 3 (.slice (some ⟨go, 0, none⟩) l.length co) rfl
          have z0 : (0 : Int) ≤ (i : Int) := by omega
          have z1 : (i : Int) < (l.length : Int) := by omega
          obtain ⟨a, hA⟩ : ∃ a, (ordF l n d).getD i 0 = a := ⟨_, rfl⟩
          have HA := Lib.hid hA
          have HAL := Lib.hid (show a < l.length by rw [← hA]; exact ordF_at_lt l n d i hlt)
          rw [hA] at o0
          clear hA
          have hsl : SlR (fun k => k < wq.heap.size) ws 1 (.slice (some ⟨go, 0, none⟩) l.length co) l.length (iCells (ordF l n d)) := (SlR.of_own HL1.out.ord).weaken (fun k hk => by have := (HLI.out.ord.lt k hk).2; have hu := HUE.out; omega)
          go_wp2_with (with_reducible (refine stop_at (o := ⟨some 72, _, _, _, _, _⟩) ?_))
          refine Stop.go ?_
          refine wpList_slice_from _ rfl 33 _ _ rfl 1 (by kernel_rfl) (fun _ => by kernel_rfl) _ _ _ _ rfl hsl (i + 1) .i64 ((i : Int) + 1) rfl (by omega) (by omega) (fun sv hsv => ?_)
          rw [iCells_drop] at hsv
          have HSV := Lib.hid hsv
          obtain ⟨a7, c7, rfl⟩ := hsv.shape
          clear hsv hsl o0 ck
          go_wp2_with fail
          go_loopg [74] (l.length - (i + 1)) (fun gk jv wr => ∃ q : Nat, jv = .int .i64 (q : Int) ∧ gk = l.length - (i + 1) - q ∧ q ≤ l.length - (i + 1) ∧ Hid (Upd (fun j => wq.heap.size ≤ j) ws wr) ∧ ∃ (M : List Sw) (v : Value), Hid (M.Perm (colP l n d m e0 i ++ rowP l n d m e0 i q)) ∧ Hid (HeapN earl zS M.length M) ∧ Hid (QR wq.heap.size wr (wq.heap.size + 1) v M))
          case atStart => exact ⟨0, rfl, rfl, Nat.zero_le _, Lib.hid (Upd.refl _ _), M, v, Lib.hid (by rw [show rowP l n d m e0 i 0 = [] from rfl, List.append_nil]; exact HPM.out), HHM, HQ⟩
          case round =>
            clear HPM HHM HQ
            obtain ⟨q, rfl, rfl, hq, HE2, M, v, HPM, HHM, HQ⟩ := hrel
            by_cases hlq : q < l.length - (i + 1)
            · obtain ⟨g7, o7, h7⟩ : ∃ g off, a7 = some ⟨g, off, none⟩ := by
                obtain ⟨g, off, c, e, _⟩ := SlR.pos HSV.out (by omega)
                injection e with e1 e2 e3
                exact ⟨g, off, e1⟩
              subst h7
              have hs2 := SlR.kept HSV.out HE2.out (fun k hk h => by omega)
              have b0 := SlR.cellAt hs2 rfl (j := q) (by omega)
              rw [iCells_at _ _ (by rw [List.length_drop, ordF_len]; omega), getD_drop] at b0
              obtain ⟨b, hB⟩ : ∃ b, (ordF l n d).getD (i + 1 + q) 0 = b := ⟨_, rfl⟩
              rw [hB] at b0
              have HBL := Lib.hid (show b < l.length by rw [← hB]; exact ordF_at_lt l n d _ (by omega))
              have hPL := own_kept HPL1.out HE2.out (fun g hg h => by have h1 := HS9.out; injection hg with hg; subst hg; have := (HP.out.lt _ rfl).2; omega)
              have pa := own_cell hPL a HAL.out
              rw [iCells_at _ _ (by rw [plF_len]; exact HAL.out)] at pa
              have pb := own_cell hPL b HBL.out
              rw [iCells_at _ _ (by rw [plF_len]; exact HBL.out)] at pb
              have HPG := Lib.hid (place_gt l n d m e0 (show i < i + 1 + q by omega) (show i + 1 + q < l.length by omega))
              rw [HA.out, hB] at HPG
              have HSA : Hid (swAt l n d m e0 i (i + 1 + q) = if isSw l n d m e0 a b then some (sw l a b) else none) := Lib.hid (by unfold swAt; rw [HA.out, hB])
              have HRS := Lib.hid (rowP_succ l n d m e0 i q)
              have HLE2 := Lib.hid (show i + 1 + q < l.length by omega)
              have z2 : (0 : Int) ≤ (q : Int) := by omega
              have z3 : (q : Int) < ((l.length - (i + 1) : Nat) : Int) := by omega
              have z4 : (0 : Int) ≤ (a : Int) := by omega
              have z5 : (a : Int) < (l.length : Int) := by have := HAL.out; omega
              have z6 : (0 : Int) ≤ (b : Int) := by omega
              have z7 : (b : Int) < (l.length : Int) := by have := HBL.out; omega
              generalize (plF (ordF l m e0) l.length l.length).getD a 0 = pA at *
              generalize (plF (ordF l m e0) l.length l.length).getD b 0 = pB at *
              have HT1 : Hid (decide ((pB : Int) < (pA : Int)) = isSw l n d m e0 a b) := Lib.hid (by rw [← HPG.out]; exact decide_eq_decide.2 (by omega))
              have HT2 : Hid (decide (pB < pA) = isSw l n d m e0 a b) := Lib.hid HPG.out
              clear hs2 hPL HPG hB
              cases hC : isSw l n d m e0 a b
              · skip
                rw [hC] at HT1 HSA HT2
                have ht1 := HT1.out
                have ht2 := HT2.out
                have HPM2 : Hid (M.Perm (colP l n d m e0 i ++ rowP l n d m e0 i (q + 1))) := Lib.hid (by rw [HRS.out, HSA.out]; simpa using HPM.out)
                clear hC HT1 HT2 HSA HRS
                go_wp2_with fail
                go_quiet (fail)
                go_wp2_with fail
                have HE3 : Hid (Upd (fun j => wq.heap.size ≤ j) ws (wr.drewN nq)) := Lib.hid (HE2.out.drewN' nq)
                have HQ3 : Hid (QR wq.heap.size (wr.drewN nq) (wq.heap.size + 1) v M) := Lib.hid ⟨HQ.out.lo, HQ.out.cell, HQ.out.own, HQ.out.ne⟩
                go_roundg (l.length - (i + 1) - (q + 1))
                case measure => omega
                case rel => exact ⟨q + 1, by go_num, rfl, by omega, HE3, M, v, HPM2, HHM, HQ3⟩
              · skip
                rw [hC] at HT1 HSA HT2
                have ht1 := HT1.out
                have ht2 := HT2.out
                obtain ⟨hv1, hv2⟩ := HTV.out
                have hd1 := (vf_bd HLI.out.okt).2.1.1
                have he1 := (vf_bd hv1).2.1.1
                have HMB := Lib.hid ((sw_time hd1 he1 HLI.out.pos HLE.out hC).1)
                have HOKX := Lib.hid (sw_ok HLI.out.okm hd1 he1 HLI.out.pos HLE.out hC)
                have HOKM : Hid (okS M) := Lib.hid (okS_of HPM.out (fun x hx => by
                  rcases List.mem_append.1 hx with h | h
                  · exact col_ok HLI.out.okm hd1 he1 HLI.out.pos HLE.out x h
                  · exact row_ok HLI.out.okm hd1 he1 HLI.out.pos HLE.out x h))
                have HLM : Hid (M.length ≤ 500000) := Lib.hid (by rw [HPM.out.length_eq]; exact col_bound l n d m e0 i q (by omega) hlt (by omega))
                have HMT := Lib.hid (fun W => kmeet_yes (mg l a) (mg l b) n d W (mB_at HLI.out.okm _) (mB_at HLI.out.okm _) HLI.out.okt HMB.out)
                have HPN : Hid (rowP l n d m e0 i (q + 1) = rowP l n d m e0 i q ++ [(mtN (mg l a) (mg l b), mtD (mg l a) (mg l b), (a : Int), (b : Int))]) := Lib.hid (by rw [HRS.out, HSA.out]; rfl)
                have HOKX2 : Hid (okE (mtN (mg l a) (mg l b), mtD (mg l a) (mg l b), (a : Int), (b : Int))) := Lib.hid HOKX.out
                have HLW : Hid (LiR wr kb (.slice am l.length cm) (.slice (some ⟨go, 0, none⟩) l.length co) l n d) := Lib.hid (by
                  have hz := HLI.out.mot.lt
                  have hz2 := HLI.out.ord.lt
                  have hk := (Array.getElem?_eq_some_iff.1 HLI.out.cell).1
                  have hu := HUE.out
                  exact HL1.out.kept HE2.out (by omega) (fun g hg h => by have := (hz g hg).2; omega) (fun g hg h => by have := (hz2 g hg).2; omega))
                obtain ⟨gm, cm', hvm⟩ := own_some HLW.out.mot (by omega)
                injection hvm with e1 e2 e3
                subst e1
                clear e2 e3
                obtain ⟨p0, p1⟩ := HLW.out.mor.cells HAL.out
                obtain ⟨q0, q1⟩ := HLW.out.mor.cells HBL.out
                have y0 := cellRow HLW.out.cell 0 (.slice (some ⟨gm, 0, none⟩) l.length cm) rfl
                have y1 := cellRow HLW.out.cell 1 (.int .i64 n) rfl
                have y2 := cellRow HLW.out.cell 2 (.int .i64 d) rfl
                simp only [Nat.zero_add] at p0 p1 q0 q1
                clear hC HT1 HT2 HSA HRS HOKX hv1 hv2 hd1 he1
                generalize mtN (mg l a) (mg l b) = X at *
                generalize mtD (mg l a) (mg l b) = Y at *
                generalize (mg l a).1 = u0 at *
                generalize (mg l a).2 = u1 at *
                generalize (mg l b).1 = v0 at *
                generalize (mg l b).2 = v1 at *
                go_wp2_with fail
                go_quiet (fail)
                have xy0 := fun x : XW (wr.drewN nq) => x.ext.cell (w := wr.drewN nq) y0 (fun h => h)
                have xy1 := fun x : XW (wr.drewN nq) => x.ext.cell (w := wr.drewN nq) y1 (fun h => h)
                have xy2 := fun x : XW (wr.drewN nq) => x.ext.cell (w := wr.drewN nq) y2 (fun h => h)
                have xp0 := fun x : XW (wr.drewN nq) => x.ext.cell (w := wr.drewN nq) p0 (fun h => h)
                have xp1 := fun x : XW (wr.drewN nq) => x.ext.cell (w := wr.drewN nq) p1 (fun h => h)
                have xq0 := fun x : XW (wr.drewN nq) => x.ext.cell (w := wr.drewN nq) q0 (fun h => h)
                have xq1 := fun x : XW (wr.drewN nq) => x.ext.cell (w := wr.drewN nq) q1 (fun h => h)
                clear y0 y1 y2 p0 p1 q0 q1 pa pb b0
                go_wp2_with fail
                refine wp_region_parF (α := Nat) 23 [21] 24 [(23, 1), (24, 2)] [[], [0], [0, 1], [0, 1, 2], [], [0, 1, 2, 3, 4], [0, 1, 2, 3, 4, 5], [], [7], [7, 8], [7, 8, 9], [], [7, 8, 9, 10, 11], [7, 8, 9, 10, 11, 12], [], [14], [14, 15], [14, 15, 16], [0, 1, 2, 3, 4, 5, 6, 7, 8, 9, 10, 11, 12, 13, 14, 15, 16, 17], [0, 1, 2, 3, 4, 5, 6, 7, 8, 9, 10, 11, 12, 13, 14, 15, 16, 17, 18], [0, 1, 2, 3, 4, 5, 6, 7, 8, 9, 10, 11, 12, 13, 14, 15, 16, 17, 18, 19], [0, 1, 2, 3, 4, 5, 6, 7, 8, 9, 10, 11, 12, 13, 14, 15, 16, 17, 18, 19], [], [0, 1, 2, 3, 4, 5, 6, 7, 8, 9, 10, 11, 12, 13, 14, 15, 16, 17, 18, 19, 20, 22], [0, 1, 2, 3, 4, 5, 6, 7, 8, 9, 10, 11, 12, 13, 14, 15, 16, 17, 18, 19, 20, 21, 22, 23]]
                  [none, none, none, none, none, none, none, none, none, none, none, none, none, none, none, none, none, none, some (annVal (.tuple #[.agg #[.int .i64 X, .int .i64 Y], .bool true])), none, none, none, some (annBlk (fun g => .pointer (some ⟨g, 0, none⟩)) (fun g => g) wr.heap.size (.cells #[.int .i64 0, .int .i64 0] 25))]
                  [false, false, false, false, false, false, false, false, false, false, false, false, false, false, false, false, false, false, true, false, false, false, true] (by kernel_rfl) (by kernel_rfl) rfl (fun _ _ d _ _ h => by cases d <;> exact h) ?_
                simp only [List.take_succ_cons, List.take_zero, pickO, List.getElem?_cons_zero, List.getElem?_cons_succ]
                refine can_pure0 rfl (fun K hK => ?_); go_simp; refine hK _ ?_; clear hK K
                refine can_pure0 rfl (fun K hK => ?_); go_simp; refine hK _ ?_; clear hK K
                refine can_pure0 rfl (fun K hK => ?_); go_simp; refine hK _ ?_; clear hK K
                refine can_pure0 rfl (fun K hK => ?_); go_simp; refine hK _ ?_; clear hK K
                refine can_pure0 rfl (fun K hK => ?_); go_simp; refine hK _ ?_; clear hK K
                refine can_pure0 rfl (fun K hK => ?_); go_simp; refine hK _ ?_; clear hK K
                refine can_pure0 rfl (fun K hK => ?_); go_simp; refine hK _ ?_; clear hK K
                refine can_pure0 rfl (fun K hK => ?_); go_simp; refine hK _ ?_; clear hK K
                refine can_pure0 rfl (fun K hK => ?_); go_simp; refine hK _ ?_; clear hK K
                refine can_pure0 rfl (fun K hK => ?_); go_simp; refine hK _ ?_; clear hK K
                refine can_pure0 rfl (fun K hK => ?_); go_simp; refine hK _ ?_; clear hK K
                refine can_pure0 rfl (fun K hK => ?_); go_simp; refine hK _ ?_; clear hK K
                refine can_pure0 rfl (fun K hK => ?_); go_simp; refine hK _ ?_; clear hK K
                refine can_pure0 rfl (fun K hK => ?_); go_simp; refine hK _ ?_; clear hK K
                refine can_pure0 rfl (fun K hK => ?_); go_simp; refine hK _ ?_; clear hK K
                refine can_pure0 rfl (fun K hK => ?_); go_simp; refine hK _ ?_; clear hK K
                refine can_pure0 rfl (fun K hK => ?_); go_simp; refine hK _ ?_; clear hK K
                refine can_pure0 rfl (fun K hK => ?_); go_simp; refine hK _ ?_; clear hK K
                refine can_mem _ rfl (by go_simp) (fun W hW hG K hK => ?_) (fun K x9 hK => ?_)
                · go_simp
                  refine (HMT.out W).mono ?_
                  rintro e w' ⟨rfl, h⟩
                  exact hK default w' h trivial
                refine hK _ ?_; clear hK K
                dsimp only [annVal]
                refine can_pure0 rfl (fun K hK => ?_); go_simp; refine hK _ ?_; clear hK K
                refine can_pure0 rfl (fun K hK => ?_); go_simp; refine hK _ ?_; clear hK K
                refine can_pure0 rfl (fun K hK => ?_); go_simp; refine hK _ ?_; clear hK K
                refine can_mem _ rfl (by go_simp) (fun W hW hG K hK => ?_) (fun K g9 hK => ?_)
                · go_simp
                  exact hK W.heap.size _ ((Upd.refl _ W).alloc _) ⟨hW.size, alloc0 _ _⟩
                refine hK _ ?_; clear hK K
                dsimp only [annBlk]
                refine can_end (fun w8 hW hG => ?_)
                obtain ⟨hb9, hg9⟩ := hG _ (List.mem_append_right _ (List.mem_singleton.2 rfl))
                clear hG
                have H8 : Hid (Ext wr w8) := Lib.hid (hW.ofDrewN)
                have m0 := frozenRow hg9 0
                have m1 := frozenRow hg9 1
                have cc0 := cellRow hg9 0 (.int .i64 0) rfl
                have cc1 := cellRow hg9 1 (.int .i64 0) rfl
                have HG9 := Lib.hid (And.intro hb9 hg9)
                clear hW hg9 hb9
                refine mix_one (fun K hK _ => ?_) trivial; go_simp; refine hK _ _ trivial ?_; clear hK K
                refine mix_two (fun K hK => ?_); go_simp; refine hK _ _ ?_; clear hK K
                simp only [wpMix]
                clear xy0 xy1 xy2 xp0 xp1 xq0 xq1
                have HX9 : Hid (Ext wr ((w8.setCell ⟨g9, 0, none⟩ (.int .i64 X)).setCell ⟨g9, 1, none⟩ (.int .i64 Y))) := Lib.hid ((H8.out.setNew HG9.out.1 _).setNew HG9.out.1 _)
                have hb9 := setBlock (setBlock HG9.out.2 0 (.int .i64 X)) 1 (.int .i64 Y)
                have c90 := cellRow hb9 0 (.int .i64 X) rfl
                have c91 := cellRow hb9 1 (.int .i64 Y) rfl
                clear hb9 m0 m1 cc0 cc1
                generalize ((w8.setCell ⟨g9, 0, none⟩ (.int .i64 X)).setCell ⟨g9, 1, none⟩ (.int .i64 Y)) = w10 at *
                have HPU := Lib.hid (Push_x wq.heap.size (wq.heap.size + 1) v M (X, Y, (a : Int), (b : Int)) w10 (qr_upd HQ.out HX9.out) HOKM.out HOKX2.out HLM.out HHM.out)
                go_wp2_with fail
                refine HPU.out.mono ?_
                rintro e w12 ⟨rfl, M2, v2, h1, h2, h3, h4⟩
                have HPM2 : Hid (M2.Perm (colP l n d m e0 i ++ rowP l n d m e0 i (q + 1))) := Lib.hid (by rw [HPN.out, ← List.append_assoc]; exact h1.trans (HPM.out.append_right _))
                have HHM2 := Lib.hid h2
                have HQ2 := Lib.hid h3
                have HE3 : Hid (Upd (fun j => wq.heap.size ≤ j) ws w12) := Lib.hid ((HE2.out.trans' HX9.out (fun _ _ h => h.elim)).trans h4)
                clear h1 h2 h3 h4 c90 c91 HPU
                go_wp2_with fail
                go_roundg (l.length - (i + 1) - (q + 1))
                case measure => omega
                case rel => exact ⟨q + 1, by go_num, rfl, by omega, HE3, M2, v2, HPM2, HHM2, HQ2⟩
            · obtain rfl : q = l.length - (i + 1) := by omega
              have HPM2 : Hid (M.Perm (colP l n d m e0 (i + 1))) := Lib.hid (by rw [colP_succ]; exact HPM.out)
              have HE3 := Lib.hid (HE.out.trans HE2.out)
              have z9 : decide (((l.length - (i + 1) : Nat) : Int) < ((l.length - (i + 1) : Nat) : Int)) = false := decide_eq_false (by omega)
              go_wp2_with fail
              go_roundg (l.length - (i + 1))
              case measure => omega
              case rel => exact ⟨i + 1, by go_num, rfl, by omega, HE3, M, v, HPM2, HHM, HQ⟩
        · obtain rfl : i = l.length := by omega
          have hwB := (Array.getElem?_eq_some_iff.1 HLI.out.cell).1
          have huB := HUE.out
          have HLW : Hid (LiR ws kb (.slice am l.length cm) (.slice ao l.length co) l n d) := Lib.hid (by
            have h1 := HLI.out.ext (HU.out.ext HU11.out)
            have hz := HLI.out.mot.lt
            have hz2 := HLI.out.ord.lt
            exact h1.kept HE.out (by omega) (fun g hg h => by have := (hz g hg).2; omega) (fun g hg h => by have := (hz2 g hg).2; omega))
          have HWQ : Hid (w8.heap.size < wq.heap.size) := Lib.hid (HP.out.lt _ rfl).2
          have hwq := HWQ.out
          have h8s := H8S.out
          have HUS : Hid (Ext w ws) := Lib.hid ((HU.out.ext HU11.out).trans' HE.out (fun k hk h => by omega))
          have HNS : Hid (ws.ownsRow w.heap.size 3 1 (.slice a9 l.length c9) l.length (iCells (ordF l m e0))) := Lib.hid (own_kept (own_kept HNX.out HU11.out (fun _ _ h => h)) HE.out (fun g hg h => by have h1 := (HLTN.out g hg).2; omega))
          have HBS := Lib.hid (HE.out.heap (HU11.out.heap HBR.out.1 (fun h => h)) (by omega))
          have HLTS := Lib.hid HNS.out.lt
          have hqs := HQ.out.hlt
          have hql := HQ.out.own.lt
          obtain ⟨av, cv, hvv⟩ := own_shape HQ.out.own
          subst hvv
          have HQL := Lib.hid hql
          have HQS := Lib.hid hqs
          have HCB : Hid ((colP l n d m e0 l.length).length ≤ 4096) := Lib.hid (by have h2 := col_len l n d m e0 l.length; have h3 : l.length * l.length ≤ 64 * 64 := Nat.mul_le_mul hl64 hl64; omega)
          have HUNI := Lib.hid (fun (L : List Sw) (hp : L.Perm (colP l n d m e0 l.length)) (hs : L.Pairwise (fun x y => earl y x = false)) => swF_uniq HLI.out.okm (vf_bd HLI.out.okt).2.1.1 (vf_bd HTV.out.1).2.1.1 HLI.out.pos HLE.out hp hs)
          have HOKC := Lib.hid (col_ok (k := l.length) HLI.out.okm (vf_bd HLI.out.okt).2.1.1 (vf_bd HTV.out.1).2.1.1 HLI.out.pos HLE.out)
          clear hql hqs hwB huB hwq h8s ck3 HE HP HU11 HQ0
          go_wp2_with fail
          go_loopg [17] M.length (fun gk ovv wr => ∃ (out R : List Sw), gk = R.length ∧ Hid ((out ++ R).Perm (colP l n d m e0 l.length)) ∧ Hid (out.Pairwise (fun x y => earl y x = false) ∧ ∀ x ∈ out, ∀ y ∈ R, earl y x = false) ∧ Hid (HeapN earl zS R.length R) ∧ Hid (QR wq.heap.size wr (wq.heap.size + 1) (.slice av R.length cv) R) ∧ Hid (wr.ownsRow ws.heap.size 51 4 ovv out.length (sCells out)) ∧ Hid (Upd (fun k => k = wq.heap.size + 1 ∨ (Value.slice av M.length cv).ownBlock = some k) ws wr))
          case atStart => exact ⟨[], M, rfl, HPM, Lib.hid ⟨List.Pairwise.nil, fun x hx => by cases hx⟩, HHM, HQ, Lib.hid (World.ownsRow_nil _ _ _ _), Lib.hid (Upd.refl _ _)⟩
          case round =>
            obtain ⟨out, R, rfl, HPR, HSO, HHR, HQR, HOW, HUW⟩ := hrel
            obtain ⟨aw, cw, hvw⟩ := own_shape HOW.out
            subst hvw
            have q0 := cellRow HQR.out.cell 0 (.slice av R.length cv) rfl
            have HEL := Lib.hid (evlen_x av R.length cv wr)
            have HRL : Hid (out.length + R.length ≤ 4096) := Lib.hid (by have h1 := HPR.out.length_eq; rw [List.length_append] at h1; have := HCB.out; omega)
            by_cases h0 : R.length = 0
            · obtain rfl : R = [] := List.eq_nil_of_length_eq_zero h0
              have HFIN := Lib.hid (HUNI.out out (by have := HPR.out; rw [List.append_nil] at this; exact this) HSO.out.1)
              have hnotF : ∀ g, g < ws.heap.size → g < wq.heap.size → ¬ (g = wq.heap.size + 1 ∨ (Value.slice av M.length cv).ownBlock = some g) := fun g h1 h2 h => by
                rcases h with h | h
                · omega
                · have := (HQL.out g h).1; omega
              have hkq := (Array.getElem?_eq_some_iff.1 HLI.out.cell).1
              have hws : w.heap.size ≤ wq.heap.size := HUE.out
              have hqz : wq.heap.size ≤ ws.heap.size := by have := HQS.out; omega
              have hk9 := HUW.out.heap HLW.out.cell (hnotF kb (by omega) (by omega))
              have hwq := HWQ.out
              have h8s := H8S.out
              have hb9 := HUW.out.heap HBS.out (hnotF w.heap.size (by omega) (by omega))
              have HON := Lib.hid (own_kept HNS.out HUW.out (fun g hg h => hnotF g (by have := (HLTS.out g hg).2; omega) (by have := (HLTN.out g hg).2; omega) h))
              have HMO := Lib.hid (own_kept HLW.out.mot HUW.out (fun g hg h => hnotF g (by have := (HLI.out.mot.lt g hg).2; omega) (by have := (HLI.out.mot.lt g hg).2; omega) h))
              have HUF : Hid (Ext w wr) := Lib.hid (HUS.out.trans' HUW.out (fun i hi h => hnotF i (by omega) (by omega) h))
              have k1 := cellRow hk9 1 (.int .i64 n) rfl
              have k2 := cellRow hk9 2 (.int .i64 d) rfl
              have k3 := cellRow hk9 3 (.slice ao l.length co) rfl
              have f1 := frozenRow hk9 1
              have f2 := frozenRow hk9 2
              have f3 := frozenRow hk9 3
              have t1 := cellRow hb9 0 (.int .i64 m) rfl
              have t2 := cellRow hb9 1 (.int .i64 e0) rfl
              have HK9 := Lib.hid hk9
              have ht0 : decide ((0 : Int) < (([] : List Sw).length : Int)) = false := by simp
              clear hk9 hb9 hnotF
              go_wp2_with fail
              refine HEL.out.mono ?_
              rintro e w4 ⟨rfl, rfl⟩
              go_wp2_with fail
              go_ret2
              have hst : Upd (fun k => k = kb) w4 (((w4.setCell ⟨kb, 1, none⟩ (.int .i64 m)).setCell ⟨kb, 2, none⟩ (.int .i64 e0)).setCell ⟨kb, 3, none⟩ (.slice a9 l.length c9)) :=
                (((Upd.refl (fun k => k = kb) w4).setCell (p := ⟨kb, 1, none⟩) (.inl rfl) _).setCell (p := ⟨kb, 2, none⟩) (.inl rfl) _).setCell (p := ⟨kb, 3, none⟩) (.inl rfl) _
              refine ⟨_, _, rfl, ?_, ⟨setBlock (setBlock (setBlock HK9.out 1 (.int .i64 m)) 2 (.int .i64 e0)) 3 (.slice a9 l.length c9), own_kept HMO.out hst (fun g hg h => HLI.out.mne (by rw [hg, h])), own_base (own_kept HON.out hst (fun g hg h => by have := (HLTS.out g hg).1; omega)) (Nat.zero_le _), HLI.out.mne, fun h => by have := (HLTS.out _ h).1; omega, fun g h1 h2 => by have h3 := (HLI.out.mot.lt g h1).2; have h4 := (HLTS.out g h2).1; omega, HLI.out.okm, HTV.out.1, HTV.out.2, HLI.out.len⟩, fun g hg => (HLTS.out g hg).1, (HUF.out.mono (fun _ _ h => h.elim)).trans hst⟩
              rw [← HFIN.out]
              exact own_base (own_kept HOW.out hst (fun g hg h => by have := (HOW.out.lt g hg).1; omega)) (by omega)
            · have HPO : Hid (∀ g, av = some ⟨g, 0, none⟩ → True) := Lib.hid (fun _ _ => trivial)
              obtain ⟨g, cg, hvg⟩ := own_some HQR.out.own (by omega)
              injection hvg with e1 e2 e3
              subst e1
              clear e2 e3 HPO
              have HOKR : Hid (okS R) := Lib.hid (fun k hk => by
                have hmem : sg4 R k ∈ R := by unfold sg4; rw [List.getD_eq_getElem?_getD, List.getElem?_eq_getElem hk]; exact List.getElem_mem hk
                exact HOKC.out _ (HPR.out.mem_iff.1 (List.mem_append_right _ hmem)))
              have HPO := Lib.hid (Pop_x wq.heap.size (wq.heap.size + 1) g cv R wr HQR.out HOKR.out (by have := HRL.out; omega) (by omega) HHR.out)
              have HMIN := Lib.hid (heap_min (z := zS) hord earl_irrefl (fun k hk => HOKR.out k hk) (Nat.le_refl _) HHR.out)
              have HMEM : Hid (sg4 R 0 ∈ R) := Lib.hid (by unfold sg4; rw [List.getD_eq_getElem?_getD, List.getElem?_eq_getElem (by omega : 0 < R.length)]; exact List.getElem_mem _)
              have HMN2 : Hid (∀ y ∈ R, earl y (sg4 R 0) = false) := Lib.hid (fun y hy => by
                obtain ⟨k, hk, rfl⟩ := List.mem_iff_getElem.1 hy
                have := HMIN.out k hk
                rw [List.getD_eq_getElem?_getD, List.getElem?_eq_getElem hk] at this
                exact this)
              have hta := run_ta
              have ht0 : decide ((0 : Int) < (R.length : Int)) = true := decide_eq_true (by omega)
              have ht1 : decide (0 < R.length) = true := decide_eq_true (by omega)
              clear HMIN HUNI HBS HNS HLW
              obtain ⟨z, hz⟩ : ∃ z, sg4 R 0 = z := ⟨_, rfl⟩
              rw [hz] at HPO HMEM HMN2
              clear hz
              obtain ⟨z0, z1, z2, z3⟩ := z
              have HPO2 := HPO.out
              simp only at HPO2
              have HPO3 := Lib.hid HPO2
              clear HPO HPO2
              go_wp2_with fail
              refine HEL.out.mono ?_
              rintro e w4 ⟨rfl, rfl⟩
              go_wp2_with fail
              refine HPO3.out.mono ?_
              rintro e w5 ⟨rfl, R2, h1, h2, h3, h4⟩
              have hgs : g < ws.heap.size := (HQL.out g rfl).2
              have hbs := HQS.out
              have HO5 := Lib.hid (own_kept HOW.out h4 (fun k hk e => by have h5 := (HOW.out.lt k hk).1; rcases e with e | e <;> omega))
              have HU5 : Hid (Upd (fun k => k = wq.heap.size + 1 ∨ (Value.slice (some (⟨g, 0, none⟩ : Addr)) M.length cv).ownBlock = some k) ws w5) := Lib.hid (HUW.out.trans' h4 (fun i hi e => by rcases e with e | e; exact .inr (by rw [e]; rfl); exact .inl e))
              have HF5 := Lib.hid (And.intro h1 (And.intro h2 h3))
              have hsz5 := Nat.le_trans HUW.out.size h4.size
              have hrl := HRL.out
              clear h1 h2 h3 h4 HPO3 q0
              obtain ⟨iS, hi1, hz0, hz1, hz2⟩ := info_parts info51
              go_wp2_with (at_builtin; refine wpList_append_at _ rfl (.tmp 124) (.tmp 129) 48 rfl ws.heap.size 51 iS (.agg #[.int .i64 0, .int .i64 0, .int .i64 0, .int .i64 0]) 4 32 Try.underlying48 hi1 hz0 hz1 hz2 rfl (by decide) _ _ _ rfl (HO5.out.alloc _) ⟨w5.heap.size, 0, none⟩ 1 1 [.int .i64 z0, .int .i64 z1, .int .i64 z2, .int .i64 z3] rfl rfl ?c1 ?c2 ?c3 ?c4 ?c5 ?_)
              case c1 =>
                intro j u hj
                match j, hj with
                | 0, hj => simp at hj; subst hj; simp [Addr.add]
                | 1, hj => simp at hj; subst hj; simp [Addr.add]
                | 2, hj => simp at hj; subst hj; simp [Addr.add]
                | 3, hj => simp at hj; subst hj; simp [Addr.add]
              case c2 => intro u hu; simp at hu; rcases hu with rfl | rfl | rfl | rfl <;> rfl
              case c3 => unfold maxLen; omega
              case c4 => omega
              case c5 => simp; omega
              intro v10 w10 hG
              have HO10 : Hid (w10.ownsRow ws.heap.size 51 4 v10 (out ++ [(z0, z1, z2, z3)]).length (sCells (out ++ [(z0, z1, z2, z3)]))) := Lib.hid (by rw [sCells_snoc, List.length_append]; exact hG.own)
              have HU10 : Hid (Upd (fun k => k = wq.heap.size + 1 ∨ (Value.slice (some (⟨g, 0, none⟩ : Addr)) M.length cv).ownBlock = some k) ws w10) := Lib.hid ((HU5.out.alloc _).trans' hG.upd (fun i hi e => absurd ((HO5.out.lt i e).1) (by omega)))
              have HQ10 := Lib.hid (HF5.out.2.2)
              have HQ11 : Hid (QR wq.heap.size w10 (wq.heap.size + 1) (.slice (some ⟨g, 0, none⟩) R2.length cv) R2) := Lib.hid (by
                have h := HF5.out.2.2
                have hA := (Upd.refl (fun _ => False) w5).alloc (.cells #[.int .i64 z0, .int .i64 z1, .int .i64 z2, .int .i64 z3] 51)
                have h2 := qr_upd h hA
                refine ⟨h2.lo, hG.upd.heap h2.cell (fun e => ?_), own_kept h2.own hG.upd (fun k hk e => ?_), h2.ne⟩
                · have := (HO5.out.lt _ e).1; omega
                · have h6 := (HO5.out.lt _ e).1
                  have h7 : g = k := by injection hk
                  omega)
              have HPR2 : Hid (((out ++ [(z0, z1, z2, z3)]) ++ R2).Perm (colP l n d m e0 l.length)) := Lib.hid (by
                refine List.Perm.trans ?_ HPR.out
                rw [List.append_assoc]
                refine List.Perm.append_left _ ?_
                exact List.perm_append_comm.trans HF5.out.1)
              have HSO2 : Hid ((out ++ [(z0, z1, z2, z3)]).Pairwise (fun x y => earl y x = false) ∧ ∀ x ∈ out ++ [(z0, z1, z2, z3)], ∀ y ∈ R2, earl y x = false) := Lib.hid (by
                have hsub : ∀ y ∈ R2, y ∈ R := fun y hy => HF5.out.1.mem_iff.1 (List.mem_append_left _ hy)
                refine ⟨List.pairwise_append.2 ⟨HSO.out.1, by simp, fun x hx y hy => ?_⟩, fun x hx y hy => ?_⟩
                · rw [List.mem_singleton] at hy
                  subst hy
                  exact HSO.out.2 x hx _ HMEM.out
                · rcases List.mem_append.1 hx with h | h
                  · exact HSO.out.2 x h y (hsub y hy)
                  · rw [List.mem_singleton] at h
                    subst h
                    exact HMN2.out y (hsub y hy))
              have HHR2 := Lib.hid HF5.out.2.1
              have HRL2 : Hid (R2.length < R.length) := Lib.hid (by have := HF5.out.1.length_eq; rw [List.length_append] at this; simp at this; omega)
              obtain ⟨a11, c11, hv11⟩ := own_shape HO10.out
              subst hv11
              clear hG HQ10
              go_wp2_with fail
              go_roundg (R2.length)
              case measure => have := HRL2.out; omega
              case rel => exact ⟨out ++ [(z0, z1, z2, z3)], R2, rfl, HPR2, HSO2, HHR2, HQ11, HO10, HU10⟩

end Go.Proofs.Ytncnojhbdkhcjaa

/- The examples. -/
namespace Go.Proofs.Ytncnojhbdkhcjaa
open Go.RowKit Go.Hw Go
set_option linter.unusedVariables false
set_option linter.unusedSimpArgs false

/-- numbers of points in memory -/
def IR (S : Nat → Prop) (w : World) (v : Value) (l : List Nat) : Prop := SlR S w 1 v l.length (iCells l)
theorem IR.shape {S : Nat → Prop} {w : World} {v : Value} {l : List Nat} (h : IR S w v l) : ∃ a cap, v = .slice a l.length cap := SlR.shape h
theorem IR.ext {S : Nat → Prop} {w w' : World} {v : Value} {l : List Nat} (h : IR S w v l) (hu : Ext w w') : IR S w' v l := SlR.kept h hu (fun _ _ h => h)
theorem IR.at_ {S : Nat → Prop} {w : World} {a : Option Addr} {n cap : Nat} {l : List Nat} (h : IR S w (.slice a n cap) l) (hl : 0 < l.length) : ∃ g off, a = some ⟨g, off, none⟩ := by
  obtain ⟨g, off, c, e, _⟩ := SlR.pos h hl
  injection e with e1 e2 e3
  exact ⟨g, off, e1⟩
theorem IR.cell {S : Nat → Prop} {w : World} {g off n cap : Nat} {l : List Nat} (h : IR S w (.slice (some ⟨g, off, none⟩) n cap) l) {i : Nat} (hi : i < l.length) : w.cell? ⟨g, off + i, none⟩ = some (.int .i64 (l.getD i 0 : Nat)) := by
  have := SlR.cellAt h rfl (j := i) (by omega)
  rw [iCells_at l i hi] at this
  exact this
theorem IR.own {w : World} {b : Nat} {v : Value} {l : List Nat} {N : Nat} (hl : l.length = N) (h : w.ownsRow b 3 1 v N (iCells l)) : IR (fun k => k < w.heap.size) w v l := by
  subst hl
  exact (SlR.of_own h).weaken (fun k hk => (h.lt k hk).2)
set_option maxHeartbeats 1000000 in
theorem eqi_x (l m : List Nat) (S T : Nat → Prop) (v u : Value) (w : World) (hR : IR S w v l) (hQ : IR T w u m) (hl : l.length ≤ 4611686018427387904) (hl2 : m.length ≤ 4611686018427387904) : Calls Try.prog 19 #[v, u] w fun e w' => e = .returned (.bool (decide (l = m))) ∧ Ext w w' := by
  obtain ⟨a, cap, rfl⟩ := hR.shape
  obtain ⟨b, cap2, rfl⟩ := hQ.shape
  have hrf := Lib.hid (Upd.refl (fun _ => False) w)
  generalize hz : decide (l = m) = Z
  have HZ := Lib.hid hz
  clear hz
  by_cases hlen : l.length = m.length
  · have t0 : ((l.length : Int) != (m.length : Int)) = false := by simp [hlen]
    go_enter Try.func19, Try.ntmps19
    go_wp2_with fail
    go_loopg [13] l.length (fun gk i wr => ∃ j : Nat, i = .int .i64 j ∧ gk = l.length - j ∧ j ≤ l.length ∧ Hid (Ext w wr) ∧ Hid (l.take j = m.take j))
    case atStart => exact ⟨0, rfl, rfl, Nat.zero_le _, hrf, Lib.hid rfl⟩
    case round =>
      obtain ⟨j, rfl, rfl, hj, HE, HM⟩ := hrel
      by_cases hlt : j < l.length
      · have hlt2 : j < m.length := by omega
        obtain ⟨g, off, rfl⟩ := hR.at_ (by omega)
        obtain ⟨g2, off2, rfl⟩ := hQ.at_ (by omega)
        have a0 := (hR.ext HE.out).cell hlt
        have b0 := (hQ.ext HE.out).cell hlt2
        have i0 : (0 : Int) ≤ (j : Int) := by omega
        have i1 : (j : Int) < (l.length : Int) := by omega
        have i2 : (j : Int) < (m.length : Int) := by omega
        have HN := Lib.hid (take_eq_step l m 0 j hlt hlt2 HM.out)
        have HPQ : Hid ((((l.getD j 0 : Nat) : Int) != ((m.getD j 0 : Nat) : Int)) = true ↔ l.getD j 0 ≠ m.getD j 0) := Lib.hid (by rw [bne_iff_ne]; omega)
        clear hR hQ t0
        generalize l.getD j 0 = p at *
        generalize m.getD j 0 = q at *
        generalize ((p : Nat) : Int) = P at *
        generalize ((q : Nat) : Int) = Q at *
        cases hc : (P != Q)
        · have HN2 := Lib.hid (HN.out.1 (by
            rw [hc] at HPQ
            by_cases h : p = q
            · exact h
            · have := HPQ.out.2 h; cases this))
          clear HN HPQ
          go_wp2_with fail
          go_quiet (fail)
          go_wp2_with fail
          go_roundg (l.length - (j + 1))
          case measure => omega
          case rel => exact ⟨j + 1, by go_num, rfl, by omega, Lib.hid ⟨HE.out.os, HE.out.tape, HE.out.output, HE.out.size, HE.out.block⟩, HN2⟩
        · have hZ : Z = false := by rw [← HZ.out]; exact decide_eq_false (HN.out.2 (HPQ.out.1 hc))
          subst hZ
          clear HN HPQ
          go_wp2_with fail
          go_quiet (fail)
          go_wp2_with fail
          go_ret
          exact ⟨rfl, ⟨HE.out.os, HE.out.tape, HE.out.output, HE.out.size, HE.out.block⟩⟩
      · obtain rfl : j = l.length := by omega
        have hZ : Z = true := by
          rw [← HZ.out]
          have := HM.out
          rw [List.take_length, List.take_of_length_le (by omega)] at this
          exact decide_eq_true this
        subst hZ
        clear hR hQ t0
        go_wp2_with fail
        go_ret
        exact ⟨rfl, HE.out⟩
  · have t0 : ((l.length : Int) != (m.length : Int)) = true := by simp; omega
    have hZ : Z = false := by rw [← HZ.out]; exact decide_eq_false (fun e => hlen (by rw [e]))
    subst hZ
    clear hR hQ
    go_enter Try.func19, Try.ntmps19
    go_wp2_with fail
    go_ret
    exact ⟨rfl, hrf.out⟩
def l0 : List Mo := [(0, 2), (5, 1), (4, 0)]
theorem aw_o1 : ordF l0 0 1 = [0, 2, 1] := (ord_unique (l := l0) (by decide) (by decide)).symm
theorem aw_o2 : ordF l0 5 1 = [2, 1, 0] := (ord_unique (l := l0) (by decide) (by decide)).symm
theorem aw_c : certF l0 0 1 = [(2, 1, 0, 2)] := by
  unfold certF certP certAt
  rw [aw_o1]
  decide +kernel
theorem aw_s : swF l0 0 1 5 1 = [(2, 1, 0, 2), (5, 1, 0, 1)] := by
  unfold swF colP rowP swAt
  rw [aw_o1]
  decide +kernel
theorem aw1 : mB l0 = true ∧ ordF l0 0 1 = [0, 2, 1] ∧ certF l0 0 1 = [(2, 1, 0, 2)] ∧ swF l0 0 1 5 1 = [(2, 1, 0, 2), (5, 1, 0, 1)] ∧ ordF l0 5 1 = [2, 1, 0] := ⟨by decide, aw_o1, aw_c, aw_s, aw_o2⟩
set_option maxRecDepth 100000 in
set_option maxHeartbeats 2000000 in
theorem awake_x (w : World) : Calls Try.prog 9 #[] w fun e w' => e = .returned (.bool true) ∧ Ext w w' := by
  have hb0 := alloc0 w (.cells #[.int .i64 0, .int .i64 2, .int .i64 5, .int .i64 1, .int .i64 4, .int .i64 0] 23)
  have HZ := Lib.hid ((Upd.refl (fun _ => False) w).alloc (.cells #[.int .i64 0, .int .i64 2, .int .i64 5, .int .i64 1, .int .i64 4, .int .i64 0] 23))
  have hR0 : MoR (fun k => k = w.heap.size) (w.alloc (.cells #[.int .i64 0, .int .i64 2, .int .i64 5, .int .i64 1, .int .i64 4, .int .i64 0] 23)) (.slice (some ⟨w.heap.size, 0, none⟩) 3 3) l0 :=
    SlR.mk' (n := 3) rfl rfl (Nat.le_refl _) (fun _ => rfl) (fun j hj => by
      rw [Nat.zero_add]
      have : j = 0 ∨ j = 1 ∨ j = 2 ∨ j = 3 ∨ j = 4 ∨ j = 5 := by omega
      rcases this with rfl | rfl | rfl | rfl | rfl | rfl <;> exact cellRow hb0 _ _ rfl)
  obtain ⟨e1, e2, e3, e4, e5⟩ := aw1
  have HNL := Lib.hid (newlist_ok l0 _ _ _ (by decide) hR0 (fun k hk => by subst hk; simp) e1 (by decide))
  clear hb0 hR0
  go_enter Try.func9, Try.ntmps9
  go_wp2_with fail
  refine HNL.out.mono ?_
  rintro e w4 ⟨kb, mv, ov, rfl, hL, ⟨hkb, hmv, hov⟩, hE⟩
  have hLk := (Array.getElem?_eq_some_iff.1 hL.cell).1
  have H4 := Lib.hid (HZ.out.ext hE)
  have HL4 := Lib.hid hL
  have HFR := Lib.hid (show w.heap.size < kb ∧ (∀ g, mv.ownBlock = some g → w.heap.size ≤ g) by
    simp at hkb
    exact ⟨by omega, fun g hg => by have := hmv g hg; simp at this; omega⟩)
  have HOM := Lib.hid (OrderM_x w4 kb mv ov l0 0 1 hL)
  rw [e2] at HOM
  clear hL hkb hmv hov hE hLk HNL HZ
  go_wp2_with fail
  refine HOM.out.mono ?_
  rintro e w5 ⟨r5, rfl, hO5, hE5⟩
  have hA5 := (Upd.refl (fun _ => False) w5).alloc (.cells #[.int .i64 0, .int .i64 2, .int .i64 1] 3)
  have hb5 := alloc0 w5 (.cells #[.int .i64 0, .int .i64 2, .int .i64 1] 3)
  have HEQ1 := Lib.hid (eqi_x [0, 2, 1] [0, 2, 1] _ (fun k => k = w5.heap.size) r5 (.slice (some ⟨w5.heap.size, 0, none⟩) 3 3) _ (IR.own (N := 3) rfl (own_kept hO5 hA5 (fun _ _ h => h))) (SlR.mk' (n := 3) rfl rfl (Nat.le_refl _) (fun _ => rfl) (fun j hj => by
      rw [Nat.zero_add]
      have : j = 0 ∨ j = 1 ∨ j = 2 := by omega
      rcases this with rfl | rfl | rfl <;> exact cellRow hb5 _ _ rfl)) (by decide) (by decide))
  have H5 := Lib.hid (H4.out.ext (hE5.ext hA5))
  have HL5 := Lib.hid (HL4.out.ext (hE5.ext hA5))
  rw [decide_eq_true rfl] at HEQ1
  obtain ⟨a5, c5, rfl⟩ := own_shape hO5
  clear hO5 hE5 hA5 hb5 HOM
  go_wp2_with fail
  refine HEQ1.out.mono ?_
  rintro e w6 ⟨rfl, hE6⟩
  have H6 := Lib.hid (H5.out.ext hE6)
  have HL6 := Lib.hid (HL5.out.ext hE6)
  have HCM := Lib.hid (certM_x w6 kb mv ov l0 0 1 HL6.out)
  rw [e3] at HCM
  clear hE6 HEQ1
  go_wp2_with fail
  refine HCM.out.mono ?_
  rintro e w7 ⟨r7, rfl, hO7, hE7⟩
  have hA7 := (Upd.refl (fun _ => False) w7).alloc (.cells #[.int .i64 2, .int .i64 1, .int .i64 0, .int .i64 2] 51)
  have hb7 := alloc0 w7 (.cells #[.int .i64 2, .int .i64 1, .int .i64 0, .int .i64 2] 51)
  have HSM1 := Lib.hid (same_x [(2, 1, 0, 2)] [(2, 1, 0, 2)] _ (fun k => k = w7.heap.size) r7 (.slice (some ⟨w7.heap.size, 0, none⟩) 1 1) _ ((SlR.of_own (own_kept hO7 hA7 (fun _ _ h => h))).weaken (T := fun _ => True) (fun _ _ => trivial)) (SlR.mk' (n := 1) rfl rfl (Nat.le_refl _) (fun _ => rfl) (fun j hj => by
      rw [Nat.zero_add]
      have : j = 0 ∨ j = 1 ∨ j = 2 ∨ j = 3 := by omega
      rcases this with rfl | rfl | rfl | rfl <;> exact cellRow hb7 _ _ rfl)) (by decide) (by decide))
  have H7 := Lib.hid (H6.out.ext (hE7.ext hA7))
  have HL7 := Lib.hid (HL6.out.ext (hE7.ext hA7))
  rw [decide_eq_true rfl] at HSM1
  obtain ⟨a7, c7, rfl⟩ := own_shape hO7
  clear hO7 hE7 hA7 hb7 HCM
  go_wp2_with fail
  refine HSM1.out.mono ?_
  rintro e w8 ⟨rfl, hE8⟩
  have H8 := Lib.hid (H7.out.ext hE8)
  have HAD := Lib.hid (adv_ok w8 kb mv ov l0 0 1 5 1 (HL7.out.ext hE8) (by decide) (by decide))
  rw [e4] at HAD
  clear hE8 HSM1
  go_wp2_with fail
  refine HAD.out.mono ?_
  rintro e w9 ⟨r9, ov9, rfl, hO9, hL9, hf9, hU9⟩
  have H9 := Lib.hid (H8.out.trans' hU9 (fun i hi h => by have := HFR.out.1; omega))
  have HL9 := Lib.hid hL9
  have hA9 := (Upd.refl (fun _ => False) w9).alloc (.cells #[.int .i64 2, .int .i64 1, .int .i64 0, .int .i64 2, .int .i64 5, .int .i64 1, .int .i64 0, .int .i64 1] 51)
  have hb9 := alloc0 w9 (.cells #[.int .i64 2, .int .i64 1, .int .i64 0, .int .i64 2, .int .i64 5, .int .i64 1, .int .i64 0, .int .i64 1] 51)
  have HSM2 := Lib.hid (same_x [(2, 1, 0, 2), (5, 1, 0, 1)] [(2, 1, 0, 2), (5, 1, 0, 1)] _ (fun k => k = w9.heap.size) r9 (.slice (some ⟨w9.heap.size, 0, none⟩) 2 2) _ ((SlR.of_own (own_kept hO9 hA9 (fun _ _ h => h))).weaken (T := fun _ => True) (fun _ _ => trivial)) (SlR.mk' (n := 2) rfl rfl (Nat.le_refl _) (fun _ => rfl) (fun j hj => by
      rw [Nat.zero_add]
      have : j = 0 ∨ j = 1 ∨ j = 2 ∨ j = 3 ∨ j = 4 ∨ j = 5 ∨ j = 6 ∨ j = 7 := by omega
      rcases this with rfl | rfl | rfl | rfl | rfl | rfl | rfl | rfl <;> exact cellRow hb9 _ _ rfl)) (by decide) (by decide))
  rw [decide_eq_true rfl] at HSM2
  have HLA := Lib.hid (HL9.out.ext hA9)
  have HA9 := Lib.hid (H9.out.ext hA9)
  obtain ⟨a9, c9, rfl⟩ := own_shape hO9
  clear hO9 hL9 hf9 hU9 hA9 hb9 HAD
  go_wp2_with fail
  refine HSM2.out.mono ?_
  rintro e w10 ⟨rfl, hE10⟩
  have H10 := Lib.hid (HA9.out.ext hE10)
  have HOM2 := Lib.hid (OrderM_x w10 kb mv ov9 l0 5 1 (HLA.out.ext hE10))
  rw [e5] at HOM2
  clear hE10 HSM2
  go_wp2_with fail
  refine HOM2.out.mono ?_
  rintro e w11 ⟨r11, rfl, hO11, hE11⟩
  have hA11 := (Upd.refl (fun _ => False) w11).alloc (.cells #[.int .i64 2, .int .i64 1, .int .i64 0] 3)
  have hb11 := alloc0 w11 (.cells #[.int .i64 2, .int .i64 1, .int .i64 0] 3)
  have HEQ2 := Lib.hid (eqi_x [2, 1, 0] [2, 1, 0] _ (fun k => k = w11.heap.size) r11 (.slice (some ⟨w11.heap.size, 0, none⟩) 3 3) _ (IR.own (N := 3) rfl (own_kept hO11 hA11 (fun _ _ h => h))) (SlR.mk' (n := 3) rfl rfl (Nat.le_refl _) (fun _ => rfl) (fun j hj => by
      rw [Nat.zero_add]
      have : j = 0 ∨ j = 1 ∨ j = 2 := by omega
      rcases this with rfl | rfl | rfl <;> exact cellRow hb11 _ _ rfl)) (by decide) (by decide))
  rw [decide_eq_true rfl] at HEQ2
  have H11 := Lib.hid (H10.out.ext (hE11.ext hA11))
  obtain ⟨a11, c11, rfl⟩ := own_shape hO11
  clear hO11 hE11 hA11 hb11 HOM2
  go_wp2_with fail
  refine HEQ2.out.mono ?_
  rintro e w12 ⟨rfl, hE12⟩
  have H12 := Lib.hid (H11.out.ext hE12)
  clear hE12 HEQ2
  go_wp2_with fail
  go_ret
  exact ⟨rfl, H12.out⟩

end Go.Proofs.Ytncnojhbdkhcjaa
