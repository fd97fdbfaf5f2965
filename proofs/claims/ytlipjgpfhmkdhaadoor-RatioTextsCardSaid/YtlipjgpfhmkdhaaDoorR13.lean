/- awake. -/
import Derived.Test.YtlipjgpfhmkdhaaDoorR11
import Derived.Test.YtlipjgpfhmkdhaaDoorR12
namespace Go.Proofs.YtlipjgpfhmkdhaaDoor
open Go.RowKit Go.Hw
set_option linter.unusedVariables false
set_option linter.unusedSimpArgs false

theorem aw_mk (W : World) : Calls Tryd.prog 13 #[.int .i64 6, .int .i64 (-4)] W fun e w' => e = .returned (.tuple #[(.agg #[.int .i64 (-3), .int .i64 2]), .int .i64 0]) ∧ Ext W w' := by
  have h := mk_x 6 (-4) W (by decide) (by decide) (by decide) (by decide)
  rw [show mkN 6 (-4) = -3 by decide +kernel, show mkD 6 (-4) = 2 by decide +kernel, show mkE 6 (-4) = 0 by decide +kernel] at h
  exact h
theorem aw_big (W : World) : Calls Tryd.prog 13 #[.int .i64 1, .int .i64 1073741825] W fun e w' => e = .returned (.tuple #[(.agg #[.int .i64 0, .int .i64 0]), .int .i64 5]) ∧ Ext W w' := by
  have h := mk_x 1 1073741825 W (by decide) (by decide) (by decide) (by decide)
  rw [show mkN 1 1073741825 = 0 by decide +kernel, show mkD 1 1073741825 = 0 by decide +kernel, show mkE 1 1073741825 = 5 by decide +kernel] at h
  exact h
theorem aw_fl (W : World) : Calls Tryd.prog 17 #[(.agg #[.int .i64 (-3), .int .i64 2])] W fun e w' => e = .returned (.tuple #[.int .i64 (-2), .int .i64 0]) ∧ Ext W w' := by
  have h := floor_ok (-3) 2 W (by decide) (by decide) (by decide) (by decide) (by decide +kernel)
  rw [show (-3 : Int) / 2 = -2 by decide] at h
  exact h
theorem aw_ce (W : World) : Calls Tryd.prog 18 #[(.agg #[.int .i64 (-3), .int .i64 2])] W fun e w' => e = .returned (.tuple #[.int .i64 (-1), .int .i64 0]) ∧ Ext W w' := by
  have h := ceil_ok (-3) 2 W (by decide) (by decide) (by decide) (by decide) (by decide +kernel)
  rw [show (-((- (-3 : Int)) / 2)) = -1 by decide] at h
  exact h
theorem aw_tx (W : World) (htab : Lib.TabIs Tryd.prog W "internal/strconv.uint64pow10" .u64 Lib.pow10Tab) : Calls Tryd.prog 40 #[(.agg #[.int .i64 (-3), .int .i64 2])] W fun e w' => e = .returned (.tuple #[.string ⟨#[45, 51, 47, 50]⟩, .int .i64 0]) ∧ Ext W w' := by
  have h := text_ok (-3) 2 W (by decide) (by decide) (by decide) (by decide) htab (by decide +kernel)
  rw [textS_32] at h
  exact h
theorem aw_add (W : World) : Calls Tryd.prog 20 #[(.agg #[.int .i64 1, .int .i64 2]), (.agg #[.int .i64 1, .int .i64 3])] W fun e w' => e = .returned (.tuple #[(.agg #[.int .i64 5, .int .i64 6]), .int .i64 0]) ∧ Ext W w' := by
  have h := add_ok 1 2 1 3 W (by decide) (by decide) (by decide) (by decide) (by decide) (by decide) (by decide) (by decide) (by decide +kernel)
  rw [show mkN (1 * 3 + 1 * 2) (2 * 3) = 5 by decide +kernel, show mkD (1 * 3 + 1 * 2) (2 * 3) = 6 by decide +kernel, show mkE (1 * 3 + 1 * 2) (2 * 3) = 0 by decide +kernel] at h
  exact h
theorem aw_log (W : World) : Calls Tryd.prog 30 #[.int .i64 9] W fun e w' => e = .returned (.tuple #[.int .i64 4, .int .i64 0]) ∧ W = w' := by
  have h := clog_ok 9 W (by decide) (by decide)
  rw [show Lib.bitLen (9 - 1) = 4 by decide +kernel] at h
  exact h
theorem aw_root (W : World) : Calls Tryd.prog 32 #[.int .i64 15] W fun e w' => e = .returned (.tuple #[.int .i64 3, .int .i64 0]) ∧ W = w' :=
  (root_ok 15 W (by decide)).mono fun e w' ⟨r, h1, h2, h3, h4⟩ => by
    obtain rfl := sq_uniq h3 h4 (show 3 * 3 ≤ 15 by decide) (by decide)
    exact ⟨h1, h2⟩
set_option maxRecDepth 100000 in
set_option maxHeartbeats 1000000 in
theorem awake_x (w : World) (htab : Lib.TabIs Tryd.prog w "internal/strconv.uint64pow10" .u64 Lib.pow10Tab) : Calls Tryd.prog 12 #[] w fun e w' => e = .returned (.bool true) ∧ Ext w w' := by
  have C1 := Lib.hid aw_mk
  have C2 := Lib.hid aw_big
  have C3 := Lib.hid aw_fl
  have C4 := Lib.hid aw_ce
  have C5 : Hid (∀ W, Ext w W → Calls Tryd.prog 40 #[(.agg #[.int .i64 (-3), .int .i64 2])] W fun e w' => e = .returned (.tuple #[.string ⟨#[45, 51, 47, 50]⟩, .int .i64 0]) ∧ Ext W w') := fun W hW => aw_tx W (tab_ext htab hW)
  have C6 := Lib.hid aw_add
  have C7 := Lib.hid aw_log
  have C8 := Lib.hid aw_root
  clear htab
  go_enter Tryd.func12, Tryd.ntmps12
  go_wp2_with fail
  refine (C1.out _).mono ?_
  rintro e w4 ⟨rfl, h4⟩
  have H4 := Lib.hid h4
  clear h4
  have eV1 : Ext w4 (w4.alloc (.cells #[.int .i64 (-3), .int .i64 2] 24)) := (Upd.refl _ w4).alloc _
  have bV1 := alloc0 w4 (.cells #[.int .i64 (-3), .int .i64 2] 24)
  go_wp2_with (with_reducible (refine stop_at (o := ⟨some 22, _, _, _, _, _⟩) ?_))
  refine Stop.go ?_
  generalize hV1 : World.alloc w4 _ = V1 at *
  have BV1 : Hid (∀ W, Ext V1 W → W.heap[w4.heap.size]? = some (.cells #[.int .i64 (-3), .int .i64 2] 24)) := fun W hW => hW.heap bV1 (fun h => h)
  have EV1 := Lib.hid eV1
  clear hV1 bV1 eV1
  generalize w4.heap.size = b1 at *
  have E1 := Lib.hid (H4.out.ext EV1.out)
  clear H4 EV1
  have z := BV1.out _ (Upd.refl _ _)
  have k0 := cellRow z 0 _ rfl
  have k1 := cellRow z 1 _ rfl
  clear z
  go_wp2_with fail
  refine (C3.out _).mono ?_
  rintro e w5 ⟨rfl, h5⟩
  have E5 := Lib.hid h5
  clear h5 k0 k1
  have z := BV1.out _ E5.out
  have k0 := cellRow z 0 _ rfl
  have k1 := cellRow z 1 _ rfl
  clear z
  go_wp2_with fail
  refine (C4.out _).mono ?_
  rintro e w6 ⟨rfl, h6⟩
  have E6 := Lib.hid (E5.out.ext h6)
  clear h6 k0 k1
  have z := BV1.out _ E6.out
  have k0 := cellRow z 0 _ rfl
  have k1 := cellRow z 1 _ rfl
  clear z
  go_wp2_with fail
  refine (C5.out _ (E1.out.ext E6.out)).mono ?_
  rintro e w7 ⟨rfl, h7⟩
  have E7 := Lib.hid (E6.out.ext h7)
  clear h7 k0 k1
  go_wp2_with fail
  refine (C6.out _).mono ?_
  rintro e w8 ⟨rfl, h8⟩
  have E8 := Lib.hid (E7.out.ext h8)
  clear h8
  have eV2 : Ext w8 (w8.alloc (.cells #[.int .i64 5, .int .i64 6] 24)) := (Upd.refl _ w8).alloc _
  have bV2 := alloc0 w8 (.cells #[.int .i64 5, .int .i64 6] 24)
  go_wp2_with (with_reducible (refine stop_at (o := ⟨some 43, _, _, _, _, _⟩) ?_))
  refine Stop.go ?_
  generalize hV2 : World.alloc w8 _ = V2 at *
  have BV2 : Hid (∀ W, Ext V2 W → W.heap[w8.heap.size]? = some (.cells #[.int .i64 5, .int .i64 6] 24)) := fun W hW => hW.heap bV2 (fun h => h)
  have EV2 := Lib.hid eV2
  clear hV2 bV2 eV2
  generalize w8.heap.size = b2 at *
  have E2 := Lib.hid (E8.out.ext EV2.out)
  clear EV2
  go_wp2_with fail
  refine (C2.out _).mono ?_
  rintro e w9 ⟨rfl, h9⟩
  have E9 := Lib.hid h9
  clear h9
  have eV3 : Ext w9 (w9.alloc (.cells #[.int .i64 0, .int .i64 0] 24)) := (Upd.refl _ w9).alloc _
  have bV3 := alloc0 w9 (.cells #[.int .i64 0, .int .i64 0] 24)
  go_wp2_with (with_reducible (refine stop_at (o := ⟨some 47, _, _, _, _, _⟩) ?_))
  refine Stop.go ?_
  generalize hV3 : World.alloc w9 _ = V3 at *
  have BV3 : Hid (∀ W, Ext V3 W → W.heap[w9.heap.size]? = some (.cells #[.int .i64 0, .int .i64 0] 24)) := fun W hW => hW.heap bV3 (fun h => h)
  have EV3 := Lib.hid eV3
  clear hV3 bV3 eV3
  generalize w9.heap.size = b3 at *
  have E3 := Lib.hid (E9.out.ext EV3.out)
  clear EV3 BV3
  go_wp2_with fail
  refine (C7.out _).mono ?_
  rintro e w10 ⟨rfl, rfl⟩
  go_wp2_with fail
  refine (C8.out _).mono ?_
  rintro e w11 ⟨rfl, rfl⟩
  have z := BV1.out _ (E2.out.ext E3.out)
  have k0 := cellRow z 0 _ rfl
  have k1 := cellRow z 1 _ rfl
  clear z
  have z := BV2.out _ E3.out
  have l0 := cellRow z 0 _ rfl
  have l1 := cellRow z 1 _ rfl
  clear z
  go_wp2_with fail
  go_ret
  exact ⟨rfl, E1.out.ext (E2.out.ext E3.out)⟩

end Go.Proofs.YtlipjgpfhmkdhaaDoor
