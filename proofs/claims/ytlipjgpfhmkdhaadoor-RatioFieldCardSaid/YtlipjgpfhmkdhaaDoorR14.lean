/- The law Makes. -/
import Derived.Test.YtlipjgpfhmkdhaaDoorR13
namespace Go.Proofs.YtlipjgpfhmkdhaaDoor
open Go.RowKit Go.Hw
set_option linter.unusedVariables false
set_option linter.unusedSimpArgs false

theorem mk_valid {n d : Int} (h : mkE n d = 0) : vfB (mkN n d) (mkD n d) = true := by
  by_cases hd : d = 0
  · simp [mkE, hd] at h
  · by_cases hb : bigB n d = true
    · simp [mkE, hd, hb] at h
    · have hb' : bigB n d = false := by simpa using hb
      simp only [mkN, mkD, hd, hb', if_false, Bool.false_eq_true]
      rw [vfB_iff]
      have hp := aD_pos (num := n) hd
      have hc := cop (num := n) hd
      have hq := qN_abs n d
      simp [bigB] at hb'
      refine ⟨by omega, ?_⟩
      rw [hq]
      simpa using hc
set_option maxRecDepth 100000 in
set_option maxHeartbeats 1000000 in
theorem makes_law (n d : Int) (w : World) (n0 : -9223372036854775808 ≤ n) (n1 : n ≤ 9223372036854775807) (d0 : -9223372036854775808 ≤ d) (d1 : d ≤ 9223372036854775807) (htab : Lib.TabIs Tryd.prog w "internal/strconv.uint64pow10" .u64 Lib.pow10Tab) : Calls Tryd.prog 3 #[.int .i64 n, .int .i64 d] w fun e w' => e = .returned (.bool true) ∧ Ext w w' := by
  have CA := Lib.hid (awake_x w htab)
  have C1 : Hid (∀ W, Calls Tryd.prog 13 #[.int .i64 n, .int .i64 d] W fun e w' => e = .returned (.tuple #[.agg #[.int .i64 (mkN n d), .int .i64 (mkD n d)], .int .i64 (mkE n d)]) ∧ Ext W w') := fun W => mk_x n d W n0 n1 d0 d1
  have C2 : Hid (∀ W, Calls Tryd.prog 14 #[.int .i64 n, .int .i64 d] W fun e w' => e = .returned (.tuple #[.agg #[.int .i64 (mkN n d), .int .i64 (mkD n d)], .int .i64 (mkE n d)]) ∧ Ext W w') := fun W => rmk_x n d W n0 n1 d0 d1
  have C3 : Hid (∀ W, Calls Tryd.prog 15 #[.agg #[.int .i64 n, .int .i64 d]] W fun e w' => e = .returned (.bool (vfB n d)) ∧ Ext W w') := fun W => valid_x n d W n0 n1 d0 d1
  have C4 : Hid (∀ W, Calls Tryd.prog 16 #[.agg #[.int .i64 n, .int .i64 d]] W fun e w' => e = .returned (.bool (vfB n d)) ∧ Ext W w') := fun W => rvalid_x n d W
  have C5 : Hid (mkE n d = 0 → ∀ W, Calls Tryd.prog 15 #[.agg #[.int .i64 (mkN n d), .int .i64 (mkD n d)]] W fun e w' => e = .returned (.bool true) ∧ Ext W w') := fun h W => by
    have hv := mk_valid h
    obtain ⟨⟨v1, v2⟩, ⟨v3, v4⟩, _⟩ := vf_bd hv
    have := valid_x (mkN n d) (mkD n d) W (by omega) (by omega) (by omega) (by omega)
    rw [hv] at this
    exact this
  generalize mkN n d = N at *
  generalize mkD n d = D at *
  generalize mkE n d = E at *
  generalize vfB n d = vb at *
  go_enter Tryd.func3, Tryd.ntmps3
  go_wp2_with fail
  refine CA.out.mono ?_
  rintro e w1 ⟨rfl, h1⟩
  have H1 := Lib.hid h1
  clear h1 CA htab
  go_wp2_with fail
  refine (C1.out _).mono ?_
  rintro e w2 ⟨rfl, h2⟩
  have H2 := Lib.hid (H1.out.ext h2)
  clear h2 H1
  have B1 : Hid (∀ W, Ext (w2.alloc (.cells #[.int .i64 N, .int .i64 D] 24)) W → W.heap[w2.heap.size]? = some (.cells #[.int .i64 N, .int .i64 D] 24)) := fun W hW => hW.heap (alloc0 w2 (.cells #[.int .i64 N, .int .i64 D] 24)) (fun h => h)
  have E1 := Lib.hid (H2.out.alloc (.cells #[.int .i64 N, .int .i64 D] 24))
  clear H2
  go_wp2_with fail
  refine (C2.out _).mono ?_
  rintro e w3 ⟨rfl, h3⟩
  have E3 := Lib.hid h3
  clear h3
  have eV2 : Ext w3 ((w3.alloc (.cells #[.int .i64 N, .int .i64 D] 24)).alloc (.cells #[.int .i64 n, .int .i64 d] 24)) := ((Upd.refl _ w3).alloc _).alloc _
  have bV2 := allocOld (alloc0 w3 (.cells #[.int .i64 N, .int .i64 D] 24)) (.cells #[.int .i64 n, .int .i64 d] 24)
  have bV3 := alloc_at (w3.alloc (.cells #[.int .i64 N, .int .i64 D] 24)) (.cells #[.int .i64 n, .int .i64 d] 24) (n := w3.heap.size + 1) (by simp)
  go_wp2_with fail
  generalize hV2 : World.alloc (World.alloc w3 _) _ = V2 at *
  have E2 := Lib.hid (E1.out.ext (E3.out.ext eV2))
  have z1 := (E3.out.ext eV2).heap (B1.out _ (Upd.refl _ _)) (fun h => h)
  have hrf : Ext V2 V2 := Upd.refl _ _
  have x0 : ∀ x : XW V2, x.val.cell? ⟨w2.heap.size, 0, none⟩ = some (.int .i64 N) := fun x => cellRow (x.ext.heap z1 (fun h => h)) 0 _ rfl
  have x1 : ∀ x : XW V2, x.val.cell? ⟨w2.heap.size, 1, none⟩ = some (.int .i64 D) := fun x => cellRow (x.ext.heap z1 (fun h => h)) 1 _ rfl
  have x2 : ∀ x : XW V2, x.val.cell? ⟨w3.heap.size, 0, none⟩ = some (.int .i64 N) := fun x => cellRow (x.ext.heap bV2 (fun h => h)) 0 _ rfl
  have x3 : ∀ x : XW V2, x.val.cell? ⟨w3.heap.size, 1, none⟩ = some (.int .i64 D) := fun x => cellRow (x.ext.heap bV2 (fun h => h)) 1 _ rfl
  have x4 : ∀ x : XW V2, x.val.cell? ⟨w3.heap.size + 1, 0, none⟩ = some (.int .i64 n) := fun x => cellRow (x.ext.heap bV3 (fun h => h)) 0 _ rfl
  have x5 : ∀ x : XW V2, x.val.cell? ⟨w3.heap.size + 1, 1, none⟩ = some (.int .i64 d) := fun x => cellRow (x.ext.heap bV3 (fun h => h)) 1 _ rfl
  have heq := fun W : World => eq24 N D N D W
  clear hV2 bV2 bV3 eV2 z1 E1 E3 B1
  by_cases hE : E = 0
  · have C6 := Lib.hid (C5.out hE)
    subst hE
    clear C5
    refine wp_region_ext V2 (by assumption) (by kernel_rfl) (by kernel_rfl) ?_
    repeat (first | go_big_quiet_skip | (go_big_quiet_want; go_big_quiet_op; first | go_big_quiet_on | (apply Exists.intro; refine ⟨fun x => ?_, ?_⟩; (first | (go_at_call 15; first | with_reducible exact XW.call (C3.out _) | with_reducible exact XW.call (C6.out _)) | (go_at_call 16; exact XW.call (C4.out _))); go_big_quiet_on)))
    refine wpQuiet_nil ?_
    rintro w6 ⟨⟨_, hyw6⟩, rfl⟩
    try dsimp only
    go_wp2_with fail
    go_ret
    exact ⟨rfl, E2.out.ext hyw6⟩
  · have t1 : (E != 0) = true := bne_iff_ne.2 hE
    have t2 : (E == 0) = false := beq_eq_false_iff_ne.2 hE
    clear C5
    refine wp_region_ext V2 (by assumption) (by kernel_rfl) (by kernel_rfl) ?_
    repeat (first | go_big_quiet_skip | (go_big_quiet_want; go_big_quiet_op; first | go_big_quiet_on | (apply Exists.intro; refine ⟨fun x => ?_, ?_⟩; (first | (go_at_call 15; exact XW.call (C3.out _)) | (go_at_call 16; exact XW.call (C4.out _))); go_big_quiet_on)))
    refine wpQuiet_nil ?_
    rintro w6 ⟨⟨_, hyw6⟩, rfl⟩
    try dsimp only
    go_wp2_with fail
    go_ret
    exact ⟨rfl, E2.out.ext hyw6⟩

end Go.Proofs.YtlipjgpfhmkdhaaDoor
