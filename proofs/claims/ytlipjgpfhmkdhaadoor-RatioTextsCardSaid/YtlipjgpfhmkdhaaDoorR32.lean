/- ratio.Parse. -/
import Derived.Test.YtlipjgpfhmkdhaaDoorR30
namespace Go.Proofs.YtlipjgpfhmkdhaaDoor
open Go.RowKit Go.Hw
set_option linter.unusedVariables false
set_option linter.unusedSimpArgs false

set_option maxRecDepth 100000 in
set_option maxHeartbeats 1000000 in
theorem parse_bad1_true (s s1 s2 : ByteArray) (n d : Int) (w : World) (cut : ∀ W, Ext w W → Calls Tryd.prog 48 #[.string s, .string ⟨#[47]⟩] W fun e w' => e = .returned (.tuple #[.string s1, .string s2, .bool true]) ∧ Ext W w') (c1 : ∀ W, Ext w W → Calls Tryd.prog 49 #[.string s1] W fun e w' => ∃ q, e = .returned (.tuple #[.int .i64 n, .iface 79 (.pointer (some q))]) ∧ Ext W w') (c2 : ∀ W, Ext w W → Calls Tryd.prog 49 #[.string s2] W fun e w' => (∃ er, e = .returned (.tuple #[.int .i64 d, er])) ∧ Ext W w') : Calls Tryd.prog 38 #[.string s] w fun e w' => e = .returned (.tuple #[.agg #[.int .i64 0, .int .i64 0], .int .i64 7]) ∧ Ext w w' := by
  have CT := Lib.hid cut
  have C1 := Lib.hid c1
  have C2 := Lib.hid c2
  clear cut c1 c2
  have HZ : Hid (Ext w (w.alloc (.cells #[.int .i64 0, .int .i64 0] 24))) := (Upd.refl _ w).alloc _
  have HB : Hid (∀ W, Ext (w.alloc (.cells #[.int .i64 0, .int .i64 0] 24)) W → W.heap[w.heap.size]? = some (.cells #[.int .i64 0, .int .i64 0] 24)) := fun W hW => hW.heap (alloc0 w _) (fun h => h)
  have E0 : Hid (Ext (w.alloc (.cells #[.int .i64 0, .int .i64 0] 24)) (w.alloc (.cells #[.int .i64 0, .int .i64 0] 24))) := Upd.refl _ _
  go_enter Tryd.func38, Tryd.ntmps38
  go_wp2_with fail
  refine (CT.out _ HZ.out).mono ?_
  rintro e w4 ⟨rfl, h4⟩
  have H4 := Lib.hid h4
  clear h4
  go_wp2_with fail
  refine (C1.out _ (HZ.out.ext H4.out)).mono ?_
  rintro e w5 ⟨q, rfl, h5⟩
  have H5 := Lib.hid (H4.out.ext h5)
  clear h5
  go_wp2_with fail
  refine (C2.out _ (HZ.out.ext H5.out)).mono ?_
  rintro e w6 ⟨⟨er2, rfl⟩, h6⟩
  have H6 := Lib.hid (H5.out.ext h6)
  clear h6
  have hz6 := allocOld (HB.out _ H6.out) (.cells #[.int .i64 n, .int .i64 d] 24)
  have z0 := cellRow hz6 0 _ rfl
  have z1 := cellRow hz6 1 _ rfl
  have m0 := frozenRow hz6 0
  have m1 := frozenRow hz6 1
  have hfin := setBlock (setBlock hz6 0 (.int .i64 0)) 1 (.int .i64 0)
  have y0 := cellRow hfin 0 _ rfl
  have y1 := cellRow hfin 1 _ rfl
  clear hz6 hfin
  simp at y0 y1
  go_wp2_with fail
  refine bodyPost_ret (v := .tuple #[.agg #[.int .i64 0, .int .i64 0], .int .i64 7]) (by simp [results, Tryd.results38, go_sem, z0, z1, y0, y1]) rfl ⟨rfl, ?_⟩
  exact (((HZ.out.ext H6.out).alloc _).setNew (Nat.le_refl _) _).setNew (Nat.le_refl _) _

set_option maxRecDepth 100000 in
set_option maxHeartbeats 1000000 in
theorem parse_bad1_false (s s1 s2 : ByteArray) (n d : Int) (w : World) (cut : ∀ W, Ext w W → Calls Tryd.prog 48 #[.string s, .string ⟨#[47]⟩] W fun e w' => e = .returned (.tuple #[.string s1, .string s2, .bool false]) ∧ Ext W w') (c1 : ∀ W, Ext w W → Calls Tryd.prog 49 #[.string s1] W fun e w' => ∃ q, e = .returned (.tuple #[.int .i64 n, .iface 79 (.pointer (some q))]) ∧ Ext W w') (c2 : ∀ W, Ext w W → Calls Tryd.prog 49 #[.string ⟨#[49]⟩] W fun e w' => (∃ er, e = .returned (.tuple #[.int .i64 d, er])) ∧ Ext W w') : Calls Tryd.prog 38 #[.string s] w fun e w' => e = .returned (.tuple #[.agg #[.int .i64 0, .int .i64 0], .int .i64 7]) ∧ Ext w w' := by
  have CT := Lib.hid cut
  have C1 := Lib.hid c1
  have C2 := Lib.hid c2
  clear cut c1 c2
  have HZ : Hid (Ext w (w.alloc (.cells #[.int .i64 0, .int .i64 0] 24))) := (Upd.refl _ w).alloc _
  have HB : Hid (∀ W, Ext (w.alloc (.cells #[.int .i64 0, .int .i64 0] 24)) W → W.heap[w.heap.size]? = some (.cells #[.int .i64 0, .int .i64 0] 24)) := fun W hW => hW.heap (alloc0 w _) (fun h => h)
  have E0 : Hid (Ext (w.alloc (.cells #[.int .i64 0, .int .i64 0] 24)) (w.alloc (.cells #[.int .i64 0, .int .i64 0] 24))) := Upd.refl _ _
  go_enter Tryd.func38, Tryd.ntmps38
  go_wp2_with fail
  refine (CT.out _ HZ.out).mono ?_
  rintro e w4 ⟨rfl, h4⟩
  have H4 := Lib.hid h4
  clear h4
  go_wp2_with fail
  refine (C1.out _ (HZ.out.ext H4.out)).mono ?_
  rintro e w5 ⟨q, rfl, h5⟩
  have H5 := Lib.hid (H4.out.ext h5)
  clear h5
  go_wp2_with fail
  refine (C2.out _ (HZ.out.ext H5.out)).mono ?_
  rintro e w6 ⟨⟨er2, rfl⟩, h6⟩
  have H6 := Lib.hid (H5.out.ext h6)
  clear h6
  have hz6 := allocOld (HB.out _ H6.out) (.cells #[.int .i64 n, .int .i64 d] 24)
  have z0 := cellRow hz6 0 _ rfl
  have z1 := cellRow hz6 1 _ rfl
  have m0 := frozenRow hz6 0
  have m1 := frozenRow hz6 1
  have hfin := setBlock (setBlock hz6 0 (.int .i64 0)) 1 (.int .i64 0)
  have y0 := cellRow hfin 0 _ rfl
  have y1 := cellRow hfin 1 _ rfl
  clear hz6 hfin
  simp at y0 y1
  go_wp2_with fail
  refine bodyPost_ret (v := .tuple #[.agg #[.int .i64 0, .int .i64 0], .int .i64 7]) (by simp [results, Tryd.results38, go_sem, z0, z1, y0, y1]) rfl ⟨rfl, ?_⟩
  exact (((HZ.out.ext H6.out).alloc _).setNew (Nat.le_refl _) _).setNew (Nat.le_refl _) _

end Go.Proofs.YtlipjgpfhmkdhaaDoor
