/- The texts N18 N20 N21 N22 N23, one behind the other. -/
import Derived.Test.YtlkcjmaiahnodaaGreatDoorYAO
import Derived.Test.YtlkcjmaiahnodaaGreatDoorYAF
import Derived.Deep.DeepCutAuto
import Derived.Test.YtlkcjmaiahnodaaGreatDoorYAE
import Derived.Test.YtlkcjmaiahnodaaGreatDoorYAJ
/- The examples. -/
namespace Go.Proofs.YtlkcjmaiahnodaaGreatDoor
open Go.RowKit Go.Hw Go
set_option linter.unusedVariables false
set_option linter.unusedSimpArgs false

open Tm Go.Sort Go.Proofs Go.ChangeMaps
structure ExR where
  R : Nat → World → Prop
  st : ∀ b W W', R b W → Ext W W' → R b W'
def annG (nm : By) : PF.Ann (Nat × Option Addr × Nat) := ⟨fun x => .agg #[.string ⟨#[103]⟩, .string ⟨#[]⟩, .slice (some ⟨x.1, 0, none⟩) 1 1], fun x W => W.heap[x.1]? = some (.cells #[.string nm, .string ⟨#[115]⟩, .slice none 0 0] 24 (0, 0)), fun x W W' h hE => hE.heap h (fun h => h), fun _ => none, fun _ _ _ _ e => by cases e⟩
def annF (E : ExR) : PF.Ann (Nat × Option Addr × Nat) := ⟨fun x => .agg #[.string ⟨#[102]⟩, .string ⟨#[]⟩, .slice (some ⟨x.1, 0, none⟩) 2 2], fun x W => E.R x.1 W, fun x W W' h hE => E.st _ _ _ h hE, fun _ => none, fun _ _ _ _ e => by cases e⟩
theorem bn_ext {W W' : World} {v : Value} {L : List Bd} (h : BnR (fun k => k < W.heap.size) (fun k => k < W.heap.size) W v L) (hE : Ext W W') : BnR (fun k => k < W'.heap.size) (fun k => k < W'.heap.size) W' v L := (h.ext hE).weaken (fun k hk => Nat.lt_of_lt_of_le hk hE.size) (fun k hk => Nat.lt_of_lt_of_le hk hE.size)
def annU : PF.Ann (Nat × Option Addr × Nat) := ⟨fun x => .tuple #[.slice x.2.1 2 x.2.2, .int .i64 0], fun x W => BnR (fun k => k < W.heap.size) (fun k => k < W.heap.size) W (.slice x.2.1 2 x.2.2) exoL, fun x W W' h hE => bn_ext h hE, fun _ => none, fun _ _ _ _ e => by cases e⟩
def annN : PF.Ann (Nat × Option Addr × Nat) := ⟨fun _ => .tuple #[.slice none 0 0, .int .i64 12], fun _ _ => True, fun _ _ _ _ _ => trivial, fun _ => none, fun _ _ _ _ e => by cases e⟩
def annB : PF.Ann (Nat × Option Addr × Nat) := ⟨fun x => .slice (some ⟨x.1, 0, none⟩) 2 2, fun x W => BnR (fun k => k < W.heap.size) (fun k => k < W.heap.size) W (.slice (some ⟨x.1, 0, none⟩) 2 2) exoL, fun x W W' h hE => bn_ext h hE, fun _ => none, fun _ _ _ _ e => by cases e⟩
def annT : PF.Ann (Nat × Option Addr × Nat) := ⟨fun _ => .bool true, fun _ _ => True, fun _ _ _ _ _ => trivial, fun _ => none, fun _ _ _ _ e => by cases e⟩
def exR0 : ExR := ⟨fun b W => W.heap[b]? = some (.cells #[.string ⟨#[120]⟩, .string ⟨#[115]⟩, .slice none 0 0, .string ⟨#[120]⟩, .string ⟨#[115]⟩, .slice none 0 0] 24 (0, 0)), fun b W W' h hE => hE.heap h (fun h => h)⟩
def exR1 : ExR := ⟨fun b W => ∃ c, W.heap[b]? = some (.cells #[.string ⟨#[120]⟩, .string ⟨#[115]⟩, .slice none 0 0, .string ⟨#[103]⟩, .string ⟨#[]⟩, .slice (some ⟨c, 0, none⟩) 1 1] 24 (0, 0)) ∧ W.heap[c]? = some (.cells #[.string ⟨#[121]⟩, .string ⟨#[115]⟩, .slice none 0 0] 24 (0, 0)), fun b W W' ⟨c, h1, h2⟩ hE => ⟨c, hE.heap h1 (fun h => h), hE.heap h2 (fun h => h)⟩⟩
def exR2 : ExR := ⟨fun b W => ∃ c, W.heap[b]? = some (.cells #[.string ⟨#[103]⟩, .string ⟨#[]⟩, .slice (some ⟨c, 0, none⟩) 1 1, .string ⟨#[120]⟩, .string ⟨#[115]⟩, .slice none 0 0] 24 (0, 0)) ∧ W.heap[c]? = some (.cells #[.string ⟨#[122]⟩, .string ⟨#[115]⟩, .slice none 0 0] 24 (0, 0)), fun b W W' ⟨c, h1, h2⟩ hE => ⟨c, hE.heap h1 (fun h => h), hE.heap h2 (fun h => h)⟩⟩
def exR3 : ExR := ⟨fun b W => ∃ c, W.heap[b]? = some (.cells #[.string ⟨#[121]⟩, .string ⟨#[115]⟩, .slice none 0 0, .string ⟨#[103]⟩, .string ⟨#[]⟩, .slice (some ⟨c, 0, none⟩) 1 1] 24 (0, 0)) ∧ W.heap[c]? = some (.cells #[.string ⟨#[121]⟩, .string ⟨#[115]⟩, .slice none 0 0] 24 (0, 0)), fun b W W' ⟨c, h1, h2⟩ hE => ⟨c, hE.heap h1 (fun h => h), hE.heap h2 (fun h => h)⟩⟩
theorem exo_bn {W : World} {b : Nat} (h : W.heap[b]? = some (.cells #[.string ⟨#[121]⟩, .string ⟨#[115]⟩, .slice none 0 0] 24 (0, 0))) : BnR (fun k => k < (W.alloc (.cells #[.string ⟨#[120]⟩, .string ⟨#[115]⟩, .string ⟨#[103]⟩, .string ⟨#[]⟩, .slice (some ⟨b, 0, none⟩) 1 1, .string ⟨#[122]⟩, .string ⟨#[115]⟩, .string ⟨#[121]⟩, .string ⟨#[115]⟩, .slice none 0 0] 93)).heap.size) (fun k => k < (W.alloc (.cells #[.string ⟨#[120]⟩, .string ⟨#[115]⟩, .string ⟨#[103]⟩, .string ⟨#[]⟩, .slice (some ⟨b, 0, none⟩) 1 1, .string ⟨#[122]⟩, .string ⟨#[115]⟩, .string ⟨#[121]⟩, .string ⟨#[115]⟩, .slice none 0 0] 93)).heap.size) (W.alloc (.cells #[.string ⟨#[120]⟩, .string ⟨#[115]⟩, .string ⟨#[103]⟩, .string ⟨#[]⟩, .slice (some ⟨b, 0, none⟩) 1 1, .string ⟨#[122]⟩, .string ⟨#[115]⟩, .string ⟨#[121]⟩, .string ⟨#[115]⟩, .slice none 0 0] 93)) (.slice (some ⟨W.heap.size, 0, none⟩) 2 2) exoL := by
  have h0 := alloc0 W (.cells #[.string ⟨#[120]⟩, .string ⟨#[115]⟩, .string ⟨#[103]⟩, .string ⟨#[]⟩, .slice (some ⟨b, 0, none⟩) 1 1, .string ⟨#[122]⟩, .string ⟨#[115]⟩, .string ⟨#[121]⟩, .string ⟨#[115]⟩, .slice none 0 0] 93)
  have hE := (Upd.refl (fun _ => False) W).alloc (.cells #[.string ⟨#[120]⟩, .string ⟨#[115]⟩, .string ⟨#[103]⟩, .string ⟨#[]⟩, .slice (some ⟨b, 0, none⟩) 1 1, .string ⟨#[122]⟩, .string ⟨#[115]⟩, .string ⟨#[121]⟩, .string ⟨#[115]⟩, .slice none 0 0] 93)
  have hb := hE.heap h (fun h => h)
  refine ⟨[.slice (some ⟨b, 0, none⟩) 1 1, .slice none 0 0], rfl, SlR.mk' rfl rfl (Nat.le_refl _) (fun _ => (Array.getElem?_eq_some_iff.1 h0).1) (fun j hj => ?_), fun i hi => ?_⟩
  · have hj3 : j < 10 := hj
    rw [Nat.zero_add, cell_of_row _ _ j _ _ _ h0]
    rcases (by omega : j = 0 ∨ j = 1 ∨ j = 2 ∨ j = 3 ∨ j = 4 ∨ j = 5 ∨ j = 6 ∨ j = 7 ∨ j = 8 ∨ j = 9) with rfl | rfl | rfl | rfl | rfl | rfl | rfl | rfl | rfl | rfl <;> rfl
  · have hi2 : i < 2 := hi
    rcases (by omega : i = 0 ∨ i = 1) with rfl | rfl
    · exact one_tl (a := exy) hb (Array.getElem?_eq_some_iff.1 hb).1 (TlR.nil _ _)
    · exact TlR.nil _ _
set_option maxRecDepth 100000 in
set_option maxHeartbeats 2000000 in
theorem awake_x (w : World) (htab : AscT w) : Calls Tryz.prog 13 #[] w fun e w' => e = .returned (.bool true) ∧ Ext w w' := by
  have HTAB := Lib.hid htab
  have HZ : Hid (Ext w (((w.alloc (.cells #[.string ⟨#[120]⟩, .string ⟨#[115]⟩, .slice none 0 0] 24)).alloc (.cells #[.string ⟨#[121]⟩, .string ⟨#[115]⟩, .slice none 0 0] 24)).alloc (.cells #[.string ⟨#[122]⟩, .string ⟨#[115]⟩, .slice none 0 0] 24))) := Lib.hid ((((Upd.refl (fun _ => False) w).alloc _).alloc _).alloc _)
  have hbx : (((w.alloc (.cells #[.string ⟨#[120]⟩, .string ⟨#[115]⟩, .slice none 0 0] 24)).alloc (.cells #[.string ⟨#[121]⟩, .string ⟨#[115]⟩, .slice none 0 0] 24)).alloc (.cells #[.string ⟨#[122]⟩, .string ⟨#[115]⟩, .slice none 0 0] 24)).heap[w.heap.size]? = some (.cells #[.string ⟨#[120]⟩, .string ⟨#[115]⟩, .slice none 0 0] 24 (0, 0)) := allocOld (allocOld (alloc0 w (.cells #[.string ⟨#[120]⟩, .string ⟨#[115]⟩, .slice none 0 0] 24)) (.cells #[.string ⟨#[121]⟩, .string ⟨#[115]⟩, .slice none 0 0] 24)) (.cells #[.string ⟨#[122]⟩, .string ⟨#[115]⟩, .slice none 0 0] 24)
  have hby : (((w.alloc (.cells #[.string ⟨#[120]⟩, .string ⟨#[115]⟩, .slice none 0 0] 24)).alloc (.cells #[.string ⟨#[121]⟩, .string ⟨#[115]⟩, .slice none 0 0] 24)).alloc (.cells #[.string ⟨#[122]⟩, .string ⟨#[115]⟩, .slice none 0 0] 24)).heap[w.heap.size + 1]? = some (.cells #[.string ⟨#[121]⟩, .string ⟨#[115]⟩, .slice none 0 0] 24 (0, 0)) := allocOld (alloc_at (w.alloc (.cells #[.string ⟨#[120]⟩, .string ⟨#[115]⟩, .slice none 0 0] 24)) (.cells #[.string ⟨#[121]⟩, .string ⟨#[115]⟩, .slice none 0 0] 24) (n := w.heap.size + 1) (by simp)) (.cells #[.string ⟨#[122]⟩, .string ⟨#[115]⟩, .slice none 0 0] 24)
  have hbz : (((w.alloc (.cells #[.string ⟨#[120]⟩, .string ⟨#[115]⟩, .slice none 0 0] 24)).alloc (.cells #[.string ⟨#[121]⟩, .string ⟨#[115]⟩, .slice none 0 0] 24)).alloc (.cells #[.string ⟨#[122]⟩, .string ⟨#[115]⟩, .slice none 0 0] 24)).heap[w.heap.size + 2]? = some (.cells #[.string ⟨#[122]⟩, .string ⟨#[115]⟩, .slice none 0 0] 24 (0, 0)) := alloc_at ((w.alloc (.cells #[.string ⟨#[120]⟩, .string ⟨#[115]⟩, .slice none 0 0] 24)).alloc (.cells #[.string ⟨#[121]⟩, .string ⟨#[115]⟩, .slice none 0 0] 24)) (.cells #[.string ⟨#[122]⟩, .string ⟨#[115]⟩, .slice none 0 0] 24) (n := w.heap.size + 2) (by simp)
  clear htab
  go_enter Tryz.func13, Tryz.ntmps13
  go_wp2_with fail
  have hz2 : w.heap.size + 1 + 1 = w.heap.size + 2 := rfl
  try rw [hz2]
  generalize hw3 : (((w.alloc (.cells #[.string ⟨#[120]⟩, .string ⟨#[115]⟩, .slice none 0 0] 24)).alloc (.cells #[.string ⟨#[121]⟩, .string ⟨#[115]⟩, .slice none 0 0] 24)).alloc (.cells #[.string ⟨#[122]⟩, .string ⟨#[115]⟩, .slice none 0 0] 24)) = w3 at *
  clear hw3 hz2
  have HBX := Lib.hid hbx
  have HBY := Lib.hid hby
  have HBZ := Lib.hid hbz
  clear hbx hby hbz
  have HE3 : Hid (Ext w3 w3) := Lib.hid (Upd.refl _ _)
  have x0 := fun x : XW w3 => ((HE3.out.trans x.ext)).cell (cellRow HBX.out 0 (.string ⟨#[120]⟩) rfl) (fun h => h)
  have x1 := fun x : XW w3 => ((HE3.out.trans x.ext)).cell (cellRow HBX.out 1 (.string ⟨#[115]⟩) rfl) (fun h => h)
  have x2 := fun x : XW w3 => ((HE3.out.trans x.ext)).cell (cellRow HBX.out 2 (.slice none 0 0) rfl) (fun h => h)
  have y0 := fun x : XW w3 => ((HE3.out.trans x.ext)).cell (cellRow HBY.out 0 (.string ⟨#[121]⟩) rfl) (fun h => h)
  have y1 := fun x : XW w3 => ((HE3.out.trans x.ext)).cell (cellRow HBY.out 1 (.string ⟨#[115]⟩) rfl) (fun h => h)
  have y2 := fun x : XW w3 => ((HE3.out.trans x.ext)).cell (cellRow HBY.out 2 (.slice none 0 0) rfl) (fun h => h)
  have z0 := fun x : XW w3 => ((HE3.out.trans x.ext)).cell (cellRow HBZ.out 0 (.string ⟨#[122]⟩) rfl) (fun h => h)
  have z1 := fun x : XW w3 => ((HE3.out.trans x.ext)).cell (cellRow HBZ.out 1 (.string ⟨#[115]⟩) rfl) (fun h => h)
  have z2 := fun x : XW w3 => ((HE3.out.trans x.ext)).cell (cellRow HBZ.out 2 (.slice none 0 0) rfl) (fun h => h)
  go_cut [6, 7] (fun r6 r7 ww => ∃ ra rc, r6 = .slice ra 2 rc ∧ r7 = .int .i64 0 ∧ Hid (Ext w3 ww) ∧ Hid (BnR (fun k => k < ww.heap.size) (fun k => k < ww.heap.size) ww (.slice ra 2 rc) exoL))
  case first =>
    refine PF.wp_region_parF (α := Nat × Option Addr × Nat) 18 [] 17 [] [[], [], [], [], [2, 3], [0, 1, 2, 3, 4], [], [], [], [0, 1, 2, 3, 4, 5, 7, 8], [], [0, 1, 2, 3, 4, 5, 6, 7, 8, 9, 10], [0, 1, 2, 3, 4, 5, 6, 7, 8, 9, 10, 11], [0, 1, 2, 3, 4, 5, 6, 7, 8, 9, 10, 11, 12], [0, 1, 2, 3, 4, 5, 6, 7, 8, 9, 10, 11, 12, 13], [0, 1, 2, 3, 4, 5, 6, 7, 8, 9, 10, 11, 12, 13], [0, 1, 2, 3, 4, 5, 6, 7, 8, 9, 10, 11, 12, 13, 14], [0, 1, 2, 3, 4, 5, 6, 7, 8, 9, 10, 11, 12, 13, 14, 15, 16]] [none, none, none, none, some (annG ⟨#[121]⟩), some (annF exR1), none, none, none, some (annG ⟨#[122]⟩), none, some (annF exR2), some (annU), none, none, none, none, none] [false, false, false, false, true, true, false, false, false, true, false, true, true, false, false, false, false, false] (by kernel_rfl) (by kernel_rfl) rfl (fun _ _ d _ _ h => by cases d <;> exact h) ?_
    simp only [List.take_succ_cons, List.take_zero, pickO, List.getElem?_cons_zero, List.getElem?_cons_succ]
    refine PF.can_pure0 rfl (fun K hK => ?_); go_simp; refine hK _ ?_; clear hK K
    refine PF.can_pure0 rfl (fun K hK => ?_); go_simp; refine hK _ ?_; clear hK K
    refine PF.can_pure0 rfl (fun K hK => ?_); go_simp; refine hK _ ?_; clear hK K
    refine PF.can_pure0 rfl (fun K hK => ?_); go_simp; refine hK _ ?_; clear hK K
    refine PF.can_mem _ rfl (by go_simp) (fun W hW hG K hK => ?_) (fun K z4 hK => ?_)
    · go_simp
      refine (ex58_x _ _ _ _ _ W).mono ?_
      rintro e w' ⟨b, rfl, hb, hsz, hE⟩
      exact hK (b, none, 0) _ hE hb (fun k e => by cases e)
    refine hK _ ?_; clear hK K
    dsimp only [annG, annF, annU, annN, annB, annT]
    refine PF.can_mem _ rfl (by go_simp) (fun W hW hG K hK => ?_) (fun K z5 hK => ?_)
    · have g := hG _ (List.mem_append_right _ (List.mem_singleton.2 rfl)) (by show (4 : Nat) ∈ _; decide)
      go_simp
      refine (ex59_x _ _ _ _ _ _ _ _ _ _ W).mono ?_
      rintro e w' ⟨b, rfl, hb, hsz, hE⟩
      exact hK (b, none, 0) _ hE ⟨z4.1, hb, hE.heap g (fun h => h)⟩ (fun k e => by cases e)
    refine hK _ ?_; clear hK K
    dsimp only [annG, annF, annU, annN, annB, annT]
    refine PF.can_pure0 rfl (fun K hK => ?_); go_simp; refine hK _ ?_; clear hK K
    refine PF.can_pure0 rfl (fun K hK => ?_); go_simp; refine hK _ ?_; clear hK K
    refine PF.can_pure0 rfl (fun K hK => ?_); go_simp; refine hK _ ?_; clear hK K
    refine PF.can_mem _ rfl (by go_simp) (fun W hW hG K hK => ?_) (fun K z9 hK => ?_)
    · go_simp
      refine (ex58_x _ _ _ _ _ W).mono ?_
      rintro e w' ⟨b, rfl, hb, hsz, hE⟩
      exact hK (b, none, 0) _ hE hb (fun k e => by cases e)
    refine hK _ ?_; clear hK K
    dsimp only [annG, annF, annU, annN, annB, annT]
    refine PF.can_pure0 rfl (fun K hK => ?_); go_simp; refine hK _ ?_; clear hK K
    refine PF.can_mem _ rfl (by go_simp) (fun W hW hG K hK => ?_) (fun K z11 hK => ?_)
    · have g := hG _ (List.mem_append_right _ (List.mem_singleton.2 rfl)) (by show (9 : Nat) ∈ _; decide)
      go_simp
      refine (ex59_x _ _ _ _ _ _ _ _ _ _ W).mono ?_
      rintro e w' ⟨b, rfl, hb, hsz, hE⟩
      exact hK (b, none, 0) _ hE ⟨z9.1, hb, hE.heap g (fun h => h)⟩ (fun k e => by cases e)
    refine hK _ ?_; clear hK K
    dsimp only [annG, annF, annU, annN, annB, annT]
    refine PF.can_mem _ rfl (by go_simp) (fun W hW hG K hK => ?_) (fun K z12 hK => ?_)
    · have g5 := hG _ (List.mem_append_left _ (List.mem_append_left _ (List.mem_append_right _ (List.mem_singleton.2 rfl)))) (by show (5 : Nat) ∈ _; decide)
      have g11 := hG _ (List.mem_append_right _ (List.mem_singleton.2 rfl)) (by show (11 : Nat) ∈ _; decide)
      obtain ⟨b3, h1, h3⟩ := g5
      obtain ⟨b4, h2, h4⟩ := g11
      go_simp
      refine (exo_x W (asc_ext HTAB.out (HZ.out.trans hW)) z5.1 z11.1 b3 b4 h1 h2 h3 h4).mono ?_
      rintro e w' ⟨ra, rc, rfl, hbn, hE⟩
      exact hK (0, ra, rc) _ hE hbn (fun k e => by cases e)
    refine hK _ ?_; clear hK K
    dsimp only [annG, annF, annU, annN, annB, annT]
    refine PF.can_pure0 rfl (fun K hK => ?_); go_simp; refine hK _ ?_; clear hK K
    refine PF.can_pure0 rfl (fun K hK => ?_); go_simp; refine hK _ ?_; clear hK K
    refine PF.can_pure0 rfl (fun K hK => ?_); go_simp; refine hK _ ?_; clear hK K
    refine PF.can_pure0 rfl (fun K hK => ?_); go_simp; refine hK _ ?_; clear hK K
    refine PF.can_pure0 rfl (fun K hK => ?_); go_simp; refine hK _ ?_; clear hK K
    unfold PF.Can
    intro w8 hW hG hAp
    have gz := hG _ (List.mem_append_right _ (List.mem_singleton.2 rfl))
    clear hG hAp
    dsimp only [annG, annF, annU, annN, annB, annT] at gz
    simp only [wpMix]
    go_wp2_with fail
    go_meet
    case rel => exact ⟨_, _, rfl, rfl, Lib.hid hW, Lib.hid gz⟩
  case rest =>
    obtain ⟨ra, rc, rfl, rfl, HE4, HB4⟩ := hcut
    generalize wc = w4 at *
    clear x0 x1 x2 y0 y1 y2 z0 z1 z2
    have x0 := fun x : XW w4 => ((HE4.out.trans x.ext)).cell (cellRow HBX.out 0 (.string ⟨#[120]⟩) rfl) (fun h => h)
    have x1 := fun x : XW w4 => ((HE4.out.trans x.ext)).cell (cellRow HBX.out 1 (.string ⟨#[115]⟩) rfl) (fun h => h)
    have x2 := fun x : XW w4 => ((HE4.out.trans x.ext)).cell (cellRow HBX.out 2 (.slice none 0 0) rfl) (fun h => h)
    have y0 := fun x : XW w4 => ((HE4.out.trans x.ext)).cell (cellRow HBY.out 0 (.string ⟨#[121]⟩) rfl) (fun h => h)
    have y1 := fun x : XW w4 => ((HE4.out.trans x.ext)).cell (cellRow HBY.out 1 (.string ⟨#[115]⟩) rfl) (fun h => h)
    have y2 := fun x : XW w4 => ((HE4.out.trans x.ext)).cell (cellRow HBY.out 2 (.slice none 0 0) rfl) (fun h => h)
    have z0 := fun x : XW w4 => ((HE4.out.trans x.ext)).cell (cellRow HBZ.out 0 (.string ⟨#[122]⟩) rfl) (fun h => h)
    have z1 := fun x : XW w4 => ((HE4.out.trans x.ext)).cell (cellRow HBZ.out 1 (.string ⟨#[115]⟩) rfl) (fun h => h)
    have z2 := fun x : XW w4 => ((HE4.out.trans x.ext)).cell (cellRow HBZ.out 2 (.slice none 0 0) rfl) (fun h => h)
    go_upto_region 5 with fail
    go_cut [8, 9] (fun r8 r9 ww => r9 = .int .i64 12 ∧ Hid (Ext w4 ww))
    case first =>
      refine PF.wp_region_parF (α := Nat × Option Addr × Nat) 16 [] 15 [] [[], [], [], [0, 1, 2], [], [], [], [], [0, 1, 2, 3, 6, 7], [0, 1, 2, 3, 4, 5, 6, 7, 8], [0, 1, 2, 3, 4, 5, 6, 7, 8, 9], [0, 1, 2, 3, 4, 5, 6, 7, 8, 9, 10], [0, 1, 2, 3, 4, 5, 6, 7, 8, 9, 10, 11], [0, 1, 2, 3, 4, 5, 6, 7, 8, 9, 10, 11], [0, 1, 2, 3, 4, 5, 6, 7, 8, 9, 10, 11, 12], [0, 1, 2, 3, 4, 5, 6, 7, 8, 9, 10, 11, 12, 13, 14]] [none, none, none, some (annF exR0), none, none, none, none, some (annG ⟨#[121]⟩), some (annF exR3), some (annN), none, none, none, none, none] [false, false, false, true, false, false, false, false, true, true, true, false, false, false, false, false] (by kernel_rfl) (by kernel_rfl) rfl (fun _ _ d _ _ h => by cases d <;> exact h) ?_
      simp only [List.take_succ_cons, List.take_zero, pickO, List.getElem?_cons_zero, List.getElem?_cons_succ]
      refine PF.can_pure0 rfl (fun K hK => ?_); go_simp; refine hK _ ?_; clear hK K
      refine PF.can_pure0 rfl (fun K hK => ?_); go_simp; refine hK _ ?_; clear hK K
      refine PF.can_pure0 rfl (fun K hK => ?_); go_simp; refine hK _ ?_; clear hK K
      refine PF.can_mem _ rfl (by go_simp) (fun W hW hG K hK => ?_) (fun K z3 hK => ?_)
      · go_simp
        refine (ex59_x _ _ _ _ _ _ _ _ _ _ W).mono ?_
        rintro e w' ⟨b, rfl, hb, hsz, hE⟩
        exact hK (b, none, 0) _ hE hb (fun k e => by cases e)
      refine hK _ ?_; clear hK K
      dsimp only [annG, annF, annU, annN, annB, annT]
      refine PF.can_pure0 rfl (fun K hK => ?_); go_simp; refine hK _ ?_; clear hK K
      refine PF.can_pure0 rfl (fun K hK => ?_); go_simp; refine hK _ ?_; clear hK K
      refine PF.can_pure0 rfl (fun K hK => ?_); go_simp; refine hK _ ?_; clear hK K
      refine PF.can_pure0 rfl (fun K hK => ?_); go_simp; refine hK _ ?_; clear hK K
      refine PF.can_mem _ rfl (by go_simp) (fun W hW hG K hK => ?_) (fun K z8 hK => ?_)
      · go_simp
        refine (ex58_x _ _ _ _ _ W).mono ?_
        rintro e w' ⟨b, rfl, hb, hsz, hE⟩
        exact hK (b, none, 0) _ hE hb (fun k e => by cases e)
      refine hK _ ?_; clear hK K
      dsimp only [annG, annF, annU, annN, annB, annT]
      refine PF.can_mem _ rfl (by go_simp) (fun W hW hG K hK => ?_) (fun K z9 hK => ?_)
      · have g := hG _ (List.mem_append_right _ (List.mem_singleton.2 rfl)) (by show (8 : Nat) ∈ _; decide)
        go_simp
        refine (ex59_x _ _ _ _ _ _ _ _ _ _ W).mono ?_
        rintro e w' ⟨b, rfl, hb, hsz, hE⟩
        exact hK (b, none, 0) _ hE ⟨z8.1, hb, hE.heap g (fun h => h)⟩ (fun k e => by cases e)
      refine hK _ ?_; clear hK K
      dsimp only [annG, annF, annU, annN, annB, annT]
      refine PF.can_mem _ rfl (by go_simp) (fun W hW hG K hK => ?_) (fun K z10 hK => ?_)
      · have g3 := hG _ (List.mem_append_left _ (List.mem_append_left _ (List.mem_append_right _ (List.mem_singleton.2 rfl)))) (by show (3 : Nat) ∈ _; decide)
        have g9 := hG _ (List.mem_append_right _ (List.mem_singleton.2 rfl)) (by show (9 : Nat) ∈ _; decide)
        obtain ⟨b3, h2, h3⟩ := g9
        go_simp
        refine (ext_x W (asc_ext HTAB.out (HZ.out.trans (HE4.out.trans hW))) z3.1 z9.1 b3 g3 h2 h3).mono ?_
        rintro e w' ⟨rfl, hE⟩
        exact hK (0, none, 0) _ hE trivial (fun k e => by cases e)
      refine hK _ ?_; clear hK K
      dsimp only [annG, annF, annU, annN, annB, annT]
      refine PF.can_pure0 rfl (fun K hK => ?_); go_simp; refine hK _ ?_; clear hK K
      refine PF.can_pure0 rfl (fun K hK => ?_); go_simp; refine hK _ ?_; clear hK K
      refine PF.can_pure0 rfl (fun K hK => ?_); go_simp; refine hK _ ?_; clear hK K
      refine PF.can_pure0 rfl (fun K hK => ?_); go_simp; refine hK _ ?_; clear hK K
      refine PF.can_pure0 rfl (fun K hK => ?_); go_simp; refine hK _ ?_; clear hK K
      unfold PF.Can
      intro w8 hW hG hAp
      have gz := hG _ (List.mem_append_right _ (List.mem_singleton.2 rfl))
      clear hG hAp
      dsimp only [annG, annF, annU, annN, annB, annT] at gz
      simp only [wpMix]
      go_wp2_with fail
      go_meet
      case rel => exact ⟨rfl, Lib.hid hW⟩
    case rest =>
      obtain ⟨rfl, HE5⟩ := hcut
      clear x0 x1 x2 y0 y1 y2 z0 z1 z2
      have HEF : Hid (Ext w3 wc) := Lib.hid (HE4.out.trans HE5.out)
      have x0 := fun x : XW wc => ((HEF.out.trans x.ext)).cell (cellRow HBX.out 0 (.string ⟨#[120]⟩) rfl) (fun h => h)
      have x1 := fun x : XW wc => ((HEF.out.trans x.ext)).cell (cellRow HBX.out 1 (.string ⟨#[115]⟩) rfl) (fun h => h)
      have x2 := fun x : XW wc => ((HEF.out.trans x.ext)).cell (cellRow HBX.out 2 (.slice none 0 0) rfl) (fun h => h)
      have y0 := fun x : XW wc => ((HEF.out.trans x.ext)).cell (cellRow HBY.out 0 (.string ⟨#[121]⟩) rfl) (fun h => h)
      have y1 := fun x : XW wc => ((HEF.out.trans x.ext)).cell (cellRow HBY.out 1 (.string ⟨#[115]⟩) rfl) (fun h => h)
      have y2 := fun x : XW wc => ((HEF.out.trans x.ext)).cell (cellRow HBY.out 2 (.slice none 0 0) rfl) (fun h => h)
      have z0 := fun x : XW wc => ((HEF.out.trans x.ext)).cell (cellRow HBZ.out 0 (.string ⟨#[122]⟩) rfl) (fun h => h)
      have z1 := fun x : XW wc => ((HEF.out.trans x.ext)).cell (cellRow HBZ.out 1 (.string ⟨#[115]⟩) rfl) (fun h => h)
      have z2 := fun x : XW wc => ((HEF.out.trans x.ext)).cell (cellRow HBZ.out 2 (.slice none 0 0) rfl) (fun h => h)
      go_upto_region 6 with fail
      go_cut [0] (fun r0 ww => r0 = .bool true ∧ Hid (Ext wc ww))
      case first =>
        refine PF.wp_region_parF (α := Nat × Option Addr × Nat) 18 [] 17 [] [[], [0], [0, 1], [0, 1, 2], [0, 1, 2, 3], [0, 1, 2, 3, 4], [0, 1, 2, 3, 4, 5], [0, 1, 2, 3, 4, 5, 6], [0, 1, 2, 3, 4, 5, 6], [0, 1, 2, 3, 4, 5, 6], [0, 1, 2, 3, 4, 5, 6, 8, 9], [0, 1, 2, 3, 4, 5, 6, 8, 9, 10], [0, 1, 2, 3, 4, 5, 6], [0, 1, 2, 3, 4, 5, 6, 12], [0, 1, 2, 3, 4, 5, 6, 8, 9, 10, 11, 12, 13], [0, 1, 2, 3, 4, 5, 6, 7, 8, 9, 10, 11, 12, 13, 14], [0, 1, 2, 3, 4, 5, 6, 7, 8, 9, 10, 11, 12, 13, 14, 15], [0, 1, 2, 3, 4, 5, 6, 7, 8, 9, 10, 11, 12, 13, 14, 15, 16]] [none, none, none, none, none, none, none, none, none, none, some (annG ⟨#[121]⟩), none, none, none, some (annB), some (annT), none, none] [false, false, false, false, false, false, false, false, false, false, true, false, false, false, true, true, false, false] (by kernel_rfl) (by kernel_rfl) rfl (fun _ _ d _ _ h => by cases d <;> exact h) ?_
        simp only [List.take_succ_cons, List.take_zero, pickO, List.getElem?_cons_zero, List.getElem?_cons_succ]
        refine PF.can_pure0 rfl (fun K hK => ?_); go_simp; refine hK _ ?_; clear hK K
        refine PF.can_pure0 rfl (fun K hK => ?_); go_simp; refine hK _ ?_; clear hK K
        refine PF.can_pure0 rfl (fun K hK => ?_); go_simp; refine hK _ ?_; clear hK K
        refine PF.can_pure0 rfl (fun K hK => ?_); go_simp; refine hK _ ?_; clear hK K
        refine PF.can_pure0 rfl (fun K hK => ?_); go_simp; refine hK _ ?_; clear hK K
        refine PF.can_pure0 rfl (fun K hK => ?_); go_simp; refine hK _ ?_; clear hK K
        refine PF.can_pure0 rfl (fun K hK => ?_); go_simp; refine hK _ ?_; clear hK K
        refine PF.can_pure0 rfl (fun K hK => ?_); go_simp; refine hK _ ?_; clear hK K
        refine PF.can_pure0 rfl (fun K hK => ?_); go_simp; refine hK _ ?_; clear hK K
        refine PF.can_pure0 rfl (fun K hK => ?_); go_simp; refine hK _ ?_; clear hK K
        refine PF.can_mem _ rfl (by go_simp) (fun W hW hG K hK => ?_) (fun K z10 hK => ?_)
        · go_simp
          refine (ex58_x _ _ _ _ _ W).mono ?_
          rintro e w' ⟨b, rfl, hb, hsz, hE⟩
          exact hK (b, none, 0) _ hE hb (fun k e => by cases e)
        refine hK _ ?_; clear hK K
        dsimp only [annG, annF, annU, annN, annB, annT]
        refine PF.can_pure0 rfl (fun K hK => ?_); go_simp; refine hK _ ?_; clear hK K
        refine PF.can_pure0 rfl (fun K hK => ?_); go_simp; refine hK _ ?_; clear hK K
        refine PF.can_pure0 rfl (fun K hK => ?_); go_simp; refine hK _ ?_; clear hK K
        refine PF.can_mem _ rfl (by go_simp) (fun W hW hG K hK => ?_) (fun K z14 hK => ?_)
        · have g := hG _ (List.mem_append_right _ (List.mem_singleton.2 rfl)) (by show (10 : Nat) ∈ _; decide)
          go_simp
          exact hK (W.heap.size, none, 0) _ ((Upd.refl (fun _ => False) W).alloc _) (exo_bn g) (fun k e => by cases e)
        refine hK _ ?_; clear hK K
        dsimp only [annG, annF, annU, annN, annB, annT]
        refine PF.can_mem _ rfl (by go_simp) (fun W hW hG K hK => ?_) (fun K z15 hK => ?_)
        · have g := hG _ (List.mem_append_right _ (List.mem_singleton.2 rfl)) (by show (14 : Nat) ∈ _; decide)
          go_simp
          refine (rsameB_x exoL exoL _ _ _ _ _ _ W (HB4.out.ext (HE5.out.trans hW)) g (by decide) (by decide)).mono ?_
          rintro e w' ⟨he, hE⟩
          rw [decide_eq_true rfl] at he
          subst he
          exact hK (0, none, 0) _ hE trivial (fun k e => by cases e)
        refine hK _ ?_; clear hK K
        dsimp only [annG, annF, annU, annN, annB, annT]
        refine PF.can_pure0 rfl (fun K hK => ?_); go_simp; refine hK _ ?_; clear hK K
        refine PF.can_pure0 rfl (fun K hK => ?_); go_simp; refine hK _ ?_; clear hK K
        unfold PF.Can
        intro w8 hW hG hAp
        have gz := hG _ (List.mem_append_right _ (List.mem_singleton.2 rfl))
        clear hG hAp
        dsimp only [annG, annF, annU, annN, annB, annT] at gz
        simp only [wpMix]
        go_wp2_with fail
        go_meet
        case rel => exact ⟨rfl, Lib.hid hW⟩
      case rest =>
        obtain ⟨rfl, HE6⟩ := hcut
        clear x0 x1 x2 y0 y1 y2 z0 z1 z2
        go_wp2_with fail
        go_ret
        exact ⟨rfl, HZ.out.trans (HEF.out.trans HE6.out)⟩

end Go.Proofs.YtlkcjmaiahnodaaGreatDoor

/- match. -/
namespace Go.Proofs.YtlkcjmaiahnodaaGreatDoor
open Go.RowKit Go.Hw Go
set_option linter.unusedVariables false
set_option linter.unusedSimpArgs false

open Tm Go.Sort Go.Proofs Go.ChangeMaps
/-- a table whose bindings are known -/
def TbB (S : Nat → Prop) (w : World) (b : Nat) (B : List Bd) : Prop := ∃ l : List Be, TbR S w b l ∧ l.map (·.1) = B ∧ ∀ x ∈ l, x.1.2.2.size ≤ 100000
theorem TbB.kept {S F : Nat → Prop} {w w' : World} {b : Nat} {B : List Bd} (h : TbB S w b B) (hu : Upd F w w') (hb : ¬ F b) (hF : ∀ k, S k → ¬ F k) : TbB S w' b B := by
  obtain ⟨l, ⟨h1, h2, h3⟩, h4, h5⟩ := h
  exact ⟨l, ⟨h1.kept hu hb, h2, fun x hx => (h3 x hx).kept hu hF⟩, h4, h5⟩
theorem TbB.ext {S : Nat → Prop} {w w' : World} {b : Nat} {B : List Bd} (h : TbB S w b B) (hu : Ext w w') : TbB S w' b B := h.kept hu (fun h => h) (fun _ _ h => h)
theorem TbB.made (S : Nat → Prop) (w : World) : TbB S (w.alloc (.map #[] 0)) w.heap.size [] := ⟨[], ⟨MpR.made _ w, List.nodup_nil, fun x hx => by cases hx⟩, rfl, fun x hx => by cases hx⟩
theorem afind_be : ∀ (l : List Be) (n : By), (bget (l.map (·.1)) n = none → afind (l.map fun x => (x.1.1, Value.agg (beEnc x).toArray)) n = none ∧ n ∉ l.map fun x => x.1.1) ∧ ∀ t, bget (l.map (·.1)) n = some t → ∃ x ∈ l, x.1.2.2 = t ∧ afind (l.map fun x => (x.1.1, Value.agg (beEnc x).toArray)) n = some (.agg (beEnc x).toArray)
  | [], n => ⟨fun _ => ⟨rfl, by simp⟩, fun t h => by cases h⟩
  | y :: l, n => by
    have ih := afind_be l n
    unfold bget at ih ⊢
    rw [List.map_cons, List.find?_cons, List.map_cons, afind_cons]
    by_cases h : y.1.1 = n
    · rw [decide_eq_true h, if_pos h]
      exact ⟨(fun e => by cases e), fun t e => ⟨y, List.mem_cons_self .., by injection e, rfl⟩⟩
    · rw [decide_eq_false h, if_neg h]
      refine ⟨fun e => ⟨(ih.1 e).1, by rw [List.map_cons, List.mem_cons, not_or]; exact ⟨fun e2 => h e2.symm, (ih.1 e).2⟩⟩, fun t e => ?_⟩
      obtain ⟨x, hx, h1, h2⟩ := ih.2 t e
      exact ⟨x, List.mem_cons_of_mem _ hx, h1, h2⟩
theorem putB_out : ∀ {l : List Be} {x : Be}, x.1.1 ∉ (l.map fun x => x.1.1) → putB l x = l ++ [x]
  | [], x, h => rfl
  | y :: l, x, h => by
    rw [List.map_cons, List.mem_cons, not_or] at h
    unfold putB
    rw [if_neg (fun e => h.1 e.symm), putB_out h.2]
    rfl
set_option maxRecDepth 100000 in
set_option maxHeartbeats 2000000 in
theorem umatch_x : ∀ (p t : Tm) (v v' : Value) (S T : Nat → Prop) (B : List Bd) (b : Nat) (w : World), TmR S w p v → TmR T w t v' → TbB T w b B → ¬ S b → ¬ T b → p.size ≤ 1000000 → t.size ≤ 100000 →
    Calls Tryz.prog 64 #[.map (some b), v, v'] w fun e w' => e = .returned (.bool (mtB p t B).isSome) ∧ Upd (fun k => k = b) w w' ∧ ∀ C, mtB p t B = some C → TbB T w' b C := by
  refine Tm.ind (fun n s L ih => ?_)
  intro t v v' S T B b w hP hT hB hS hTb hsz hszt
  obtain ⟨m, r, M⟩ := t
  obtain ⟨pa, pc, rfl, hP⟩ := hP
  obtain ⟨ta, tc, rfl, hT⟩ := hT
  dsimp only [tV, Tm.name, Tm.sort, Tm.kids] at hP hT ⊢
  have HPL := Lib.hid hP
  have HTM := Lib.hid hT
  have HBD := Lib.hid hB
  have HNS := Lib.hid hS
  have HNT := Lib.hid hTb
  have HSZT := Lib.hid hszt
  have HIH := Lib.hid ih
  have HBL : Hid (b < w.heap.size) := Lib.hid (by obtain ⟨l, h1, _⟩ := hB; exact h1.mp.lt)
  have hlL : L.length ≤ 1000000 := by have h1 := length_le_sizes L; have h2 := hsz; rw [size_eq] at h2; exact Nat.le_trans h1 (Nat.le_of_succ_le h2)
  have hszl : sizes L + 1 ≤ 1000000 := by rw [size_eq] at hsz; exact hsz
  have hszm : sizes M + 1 ≤ 100000 := by rw [size_eq] at hszt; exact hszt
  have HSZ := Lib.hid (And.intro hszl hszm)
  have HSM := Lib.hid (fun (x : Tm) (vx : Value) W (hx : TmR T W x vx) (hsx : x.size ≤ 100000) (hW : Ext w W) => usame_x x (.mk m r M) vx (.agg #[.string m, .string r, .slice ta M.length tc]) T T W hx ⟨ta, tc, rfl, hT.ext hW⟩ (by omega))
  obtain ⟨V, hV⟩ : ∃ V, mtB (.mk n s L) (.mk m r M) B = V := ⟨_, rfl⟩
  rw [hV]
  have HVV := Lib.hid hV
  have HV1 := Lib.hid (fun W => variable_x n s pa L.length pc W)
  have HV2 := Lib.hid (fun W => variable_x m r ta M.length tc W)
  clear ih hP hT hB hS hTb hsz hszt hszl hszm hV
  have HZ := Lib.hid (((Upd.refl (fun _ => False) w).alloc (.cells #[.string n, .string s, .slice pa L.length pc] 24)).alloc (.cells #[.string m, .string r, .slice ta M.length tc] 24))
  have HA := Lib.hid (allocOld (alloc0 w (.cells #[.string n, .string s, .slice pa L.length pc] 24)) (.cells #[.string m, .string r, .slice ta M.length tc] 24))
  have HB := Lib.hid (alloc_at (w.alloc (.cells #[.string n, .string s, .slice pa L.length pc] 24)) (.cells #[.string m, .string r, .slice ta M.length tc] 24) (n := w.heap.size + 1) (by simp))
  have a0 := cellRow HA.out 0 (.string n) rfl
  have a1 := cellRow HA.out 1 (.string s) rfl
  have a2 := cellRow HA.out 2 (.slice pa L.length pc) rfl
  obtain ⟨nb, hnb⟩ : ∃ x, w.heap.size + 1 = x := ⟨_, rfl⟩
  have HNB : Hid (¬ nb = b ∧ w.heap.size + 1 = nb) := Lib.hid ⟨by have := HBL.out; omega, hnb⟩
  rw [hnb] at HB
  by_cases hs0 : s = nul
  · rw [decide_eq_true hs0] at HV1
    have HS0 := Lib.hid hs0
    clear hs0
    go_enter Tryz.func64, Tryz.ntmps64
    go_wp2_with fail
    try rw [hnb]
    clear hnb
    refine (HV1.out _).mono ?_
    rintro e w3 ⟨rfl, hw3⟩
    have HE3 := Lib.hid (HZ.out.trans hw3)
    have HA3 := Lib.hid (hw3.heap HA.out (fun h => h))
    have HB3 := Lib.hid (hw3.heap HB.out (fun h => h))
    clear hw3 HV1 a0 a1 a2 HA HB HZ
    have b0 := cellRow HB3.out 0 (.string m) rfl
    have b1 := cellRow HB3.out 1 (.string r) rfl
    have b2 := cellRow HB3.out 2 (.slice ta M.length tc) rfl
    by_cases hr0 : r = nul
    rotate_left
    · rw [decide_eq_false hr0] at HV2
      have HV : Hid (V = none) := Lib.hid (by rw [← HVV.out, HS0.out]; exact mtB_no (fun h => hr0 h.1))
      clear hr0
      go_wp2_with fail
      refine (HV2.out _).mono ?_
      rintro e w4 ⟨rfl, hw4⟩
      have HE4 := Lib.hid (HE3.out.trans hw4)
      clear hw4 b0 b1 b2
      go_wp2_with fail
      go_ret
      rw [HV.out]
      exact ⟨rfl, HE4.out.mono (fun _ _ h => h.elim), fun _ h => by cases h⟩
    rw [decide_eq_true hr0] at HV2
    have HR0 := Lib.hid hr0
    clear hr0
    go_wp2_with fail
    refine (HV2.out _).mono ?_
    rintro e w4 ⟨rfl, hw4⟩
    have HE4 := Lib.hid (HE3.out.trans hw4)
    have HA4 := Lib.hid (hw4.heap HA3.out (fun h => h))
    have HB4 := Lib.hid (hw4.heap HB3.out (fun h => h))
    clear hw4 b0 b1 b2 HV2 HA3 HB3 HE3
    have a0 := cellRow HA4.out 0 (.string n) rfl
    have a1 := cellRow HA4.out 1 (.string s) rfl
    have a2 := cellRow HA4.out 2 (.slice pa L.length pc) rfl
    have b0 := cellRow HB4.out 0 (.string m) rfl
    have b1 := cellRow HB4.out 1 (.string r) rfl
    have b2 := cellRow HB4.out 2 (.slice ta M.length tc) rfl
    have t1 := str_dc n m
    by_cases hnm : m = n
    rotate_left
    · rw [decide_eq_false (fun e => hnm e.symm)] at t1
      have HV : Hid (V = none) := Lib.hid (by rw [← HVV.out, HS0.out]; exact mtB_no (fun h => hnm h.2.1))
      clear hnm
      go_wp2_with fail
      go_ret
      rw [HV.out]
      exact ⟨rfl, HE4.out.mono (fun _ _ h => h.elim), fun _ h => by cases h⟩
    rw [decide_eq_true hnm.symm] at t1
    by_cases hlen : M.length = L.length
    rotate_left
    · have t2 : ((L.length : Int) != (M.length : Int)) = true := ln_ne (fun e => hlen e.symm)
      have HV : Hid (V = none) := Lib.hid (by rw [← HVV.out, HS0.out]; exact mtB_no (fun h => hlen h.2.2))
      clear hnm hlen
      go_wp2_with fail
      go_ret
      rw [HV.out]
      exact ⟨rfl, HE4.out.mono (fun _ _ h => h.elim), fun _ h => by cases h⟩
    have t2 : ((L.length : Int) != (M.length : Int)) = false := by simp [hlen]
    have HV0 : Hid (mtBL L M B = V) := Lib.hid (by rw [← HVV.out, HS0.out]; exact (mtB_op (t := .mk m r M) ⟨HR0.out, hnm, hlen⟩).symm)
    have HLN := Lib.hid hlen
    have HU0 : Hid (Upd (fun k => k = b) w w4) := Lib.hid (HE4.out.mono (fun _ _ h => h.elim))
    have HB0 := Lib.hid (HBD.out.ext HE4.out)
    clear hnm hlen HVV HBD
    go_wp2_with fail
    clear t1 t2 a0 a1 a2 b0 b1 b2 HA4 HE4
    go_loopg [64] L.length (fun gk iv wr => ∃ (k : Nat) (C : List Bd), iv = .int .i64 (k : Int) ∧ gk = L.length - k ∧ k ≤ L.length ∧ Hid (TbB T wr b C) ∧ Hid (mtBL (L.drop k) (M.drop k) C = V) ∧ Hid (Upd (fun k => k = b) w wr) ∧ Hid (wr.heap[nb]? = some (.cells #[.string m, .string r, .slice ta M.length tc] 24 (0, 0))))
    case atStart => exact ⟨0, B, rfl, rfl, Nat.zero_le _, HB0, HV0, HU0, HB4⟩
    case round =>
      clear HB0 HV0 HU0 HB4
      obtain ⟨k, C, rfl, rfl, hk, HBD, HVK, HE, HBX⟩ := hrel
      by_cases hlt : k < L.length
      · have hltM : k < M.length := by have := HLN.out; omega
        obtain ⟨g, off, hga, _, hat⟩ := (HPL.out.kept HE.out (fun k hk e => HNS.out (e ▸ hk))).at_ (by omega)
        obtain ⟨g', off', hga', _, hat'⟩ := (HTM.out.kept HE.out (fun k hk e => HNT.out (e ▸ hk))).at_ (by omega)
        subst hga
        subst hga'
        obtain ⟨xa, xc, q0, q1, q2, hkid⟩ := hat k hlt
        obtain ⟨ya, yc, p0, p1, p2, hkid'⟩ := hat' k hltM
        have z0 : (0 : Int) ≤ (k : Int) := by omega
        have z1 : (k : Int) < (L.length : Int) := by omega
        have z2 : decide ((k : Int) < (L.length : Int)) = true := decide_eq_true z1
        have z2' : decide (k < L.length) = true := decide_eq_true hlt
        have z3 : (k : Int) < (M.length : Int) := by omega
        have HIX := Lib.hid (fun W (hW : Ext wr W) => HIH.out (tg L k) (tg_mem L k hlt) (tg M k) _ _ S T C b W ⟨xa, xc, rfl, hkid.ext hW⟩ ⟨ya, yc, rfl, hkid'.ext hW⟩ (HBD.out.ext hW) HNS.out HNT.out (by have h1 := HSZ.out.1; have h2 := size_mem (tg_mem L k hlt); omega) (by have h1 := HSZ.out.2; have h2 := size_mem (tg_mem M k hltM); omega))
        have HVN := Lib.hid (HVK.out.symm.trans (mtBL_at (B := C) hlt hltM))
        dsimp only [tV] at HIX
        obtain ⟨x, hx⟩ : ∃ x, tg L k = x := ⟨_, rfl⟩
        obtain ⟨y, hy⟩ : ∃ y, tg M k = y := ⟨_, rfl⟩
        rw [hx] at q0 q1 q2 HIX HVN
        rw [hy] at p0 p1 p2 HIX HVN
        obtain ⟨U, hU⟩ : ∃ U, mtB x y C = U := ⟨_, rfl⟩
        rw [hU] at HIX HVN
        clear hx hy hU HVK HBD hat hat' hkid hkid'
        rw [← Nat.add_assoc] at q1 q2 p1 p2
        have hQ := (Upd.refl (fun _ => False) wr).alloc (.cells #[.string x.name, .string x.sort, .slice xa x.kids.length xc] 24)
        have p0 := hQ.cell p0 (fun h => h)
        have p1 := hQ.cell p1 (fun h => h)
        have p2 := hQ.cell p2 (fun h => h)
        have HQ := Lib.hid hQ
        have hXB := alloc0 wr (.cells #[.string x.name, .string x.sort, .slice xa x.kids.length xc] 24)
        have e0 := cellRow hXB 0 (.string x.name) rfl
        have e1 := cellRow hXB 1 (.string x.sort) rfl
        have e2 := cellRow hXB 2 (.slice xa x.kids.length xc) rfl
        have hBQ := hQ.heap HBX.out (fun h => h)
        have b2 := cellRow hBQ 2 (.slice (some ⟨g', off', none⟩) M.length tc) rfl
        have HBQ := Lib.hid hBQ
        clear hQ hXB hBQ
        go_wp2_with fail
        generalize wr.alloc (.cells #[.string x.name, .string x.sort, .slice xa x.kids.length xc] 24) = wq at *
        refine region_quiet_tail 7 (by kernel_rfl) (by kernel_rfl) ?_
        simp only [List.take_succ_cons, List.take_zero, List.drop_succ_cons, List.drop_zero]
        repeat (go_big_quiet_step (fail))
        refine wpQuiet_nil ?_
        change wpList _ _ _ _ _ wq.drew
        go_wp2_with fail
        refine (HIX.out _ (HQ.out.drewN' 1)).mono ?_
        rintro e w8 ⟨rfl, hw8, hb8⟩
        have HE8 : Hid (Upd (fun k => k = b) w w8) := Lib.hid ((HE.out.ext (HQ.out.drewN' 1)).trans' hw8 (fun _ _ e => e))
        have HBX8 := Lib.hid (hw8.heap HBQ.out (fun e => HNB.out.1 e))
        have HB8 := Lib.hid hb8
        clear hw8 hb8 HIX HQ HBQ p0 p1 p2 q0 q1 q2 e0 e1 e2 b2
        cases U with
        | none =>
          have HVX : Hid (V = none) := Lib.hid HVN.out
          simp only [Option.isSome_none]
          clear HVN
          go_wp2_with fail
          go_ret
          rw [HVX.out]
          exact ⟨rfl, HE8.out, fun _ h => by cases h⟩
        | some D =>
          have HVX : Hid (mtBL (L.drop (k + 1)) (M.drop (k + 1)) D = V) := Lib.hid HVN.out.symm
          have HBU := Lib.hid (HB8.out D rfl)
          simp only [Option.isSome_some]
          clear HVN HB8
          go_wp2_with fail
          go_roundg (L.length - (k + 1))
          case measure => omega
          case rel => exact ⟨k + 1, D, by go_num, rfl, by omega, HBU, HVX, HE8, HBX8⟩
      · obtain rfl : k = L.length := by omega
        have z2 : decide ((L.length : Int) < (L.length : Int)) = false := decide_eq_false (by omega)
        have HVX : Hid (V = some C) := Lib.hid (by rw [← HVK.out, List.drop_length]; unfold mtBL; rfl)
        clear HVK
        go_wp2_with fail
        go_ret
        rw [HVX.out]
        exact ⟨rfl, HE.out, fun D h => by injection h with h; rw [← h]; exact HBD.out⟩
  · rw [decide_eq_false hs0] at HV1
    have HSN := Lib.hid hs0
    clear hs0
    go_enter Tryz.func64, Tryz.ntmps64
    go_wp2_with fail
    try rw [hnb]
    clear hnb
    refine (HV1.out _).mono ?_
    rintro e w3 ⟨rfl, hw3⟩
    have HE3 := Lib.hid (HZ.out.trans hw3)
    have HA3 := Lib.hid (hw3.heap HA.out (fun h => h))
    have HB3 := Lib.hid (hw3.heap HB.out (fun h => h))
    clear hw3 HV1 a0 a1 a2 HA HB HZ
    have b0 := cellRow HB3.out 0 (.string m) rfl
    have b1 := cellRow HB3.out 1 (.string r) rfl
    have b2 := cellRow HB3.out 2 (.slice ta M.length tc) rfl
    by_cases hr0 : r = nul
    · rw [decide_eq_true hr0] at HV2
      have HNOT : Hid (¬ (r ≠ nul ∧ r ≠ s)) := Lib.hid (fun h => h.1 hr0)
      clear hr0
      go_wp2_with fail
      refine (HV2.out _).mono ?_
      rintro e w4 ⟨rfl, hw4⟩
      have HE4 := Lib.hid (HE3.out.trans hw4)
      have HA4 := Lib.hid (hw4.heap HA3.out (fun h => h))
      have HB4 := Lib.hid (hw4.heap HB3.out (fun h => h))
      clear hw4 b0 b1 b2 HV2 HA3 HB3 HE3
      have a0 := cellRow HA4.out 0 (.string n) rfl
      have a1 := cellRow HA4.out 1 (.string s) rfl
      have a2 := cellRow HA4.out 2 (.slice pa L.length pc) rfl
      have b0 := cellRow HB4.out 0 (.string m) rfl
      have b1 := cellRow HB4.out 1 (.string r) rfl
      have b2 := cellRow HB4.out 2 (.slice ta M.length tc) rfl
      obtain ⟨l, htb, hlB, hls⟩ := HBD.out
      have hl := MpR.get (P := Tryz.prog) (t := 98) (strKey Tryz.underlying9) Tryz.underlying98 (z := .agg #[.string ⟨#[]⟩, .string ⟨#[]⟩, .string ⟨#[]⟩, .string ⟨#[]⟩, .slice none 0 0]) (Tryz.zeroValue93 w4) (htb.mp.ext HE4.out) n true
      simp only [if_true] at hl
      cases hx : bget B n with
      | some x =>
        obtain ⟨xb, hxm, hxe, hf⟩ := (afind_be l n).2 x (by rw [hlB]; exact hx)
        rw [hf] at hl
        simp only [Option.getD_some, Option.isSome_some] at hl
        have hxt := htb.tl xb hxm
        have hxs := hls xb hxm
        obtain ⟨⟨bn, bs, bt⟩, ba, bl, bc⟩ := xb
        simp only at hxe hxt hxs
        obtain rfl : bl = bt.kids.length := by
          obtain ⟨a, c, h⟩ := hxt.shape
          injection h
        simp only [beEnc, beV] at hl
        have HV : Hid (V = if bt = .mk m r M then some B else none) := Lib.hid (by rw [← HVV.out]; exact mtB_some HSN.out HNOT.out (by rw [hx, hxe]))
        have hX5 := (Upd.refl (fun _ => False) w4).alloc (.cells #[.string bn, .string bs, .string bt.name, .string bt.sort, .slice ba bt.kids.length bc] 93)
        have HZ5 := Lib.hid (HE4.out.trans hX5)
        have hb5 := allocOld HB4.out (.cells #[.string bn, .string bs, .string bt.name, .string bt.sort, .slice ba bt.kids.length bc] 93)
        have HSX := Lib.hid (HSM.out bt _ _ ⟨ba, bc, rfl, hxt.ext HZ5.out⟩ hxs HZ5.out)
        dsimp only [tV] at HSX
        have d0 := cellRow hb5 0 (.string m) rfl
        have d1 := cellRow hb5 1 (.string r) rfl
        have d2 := cellRow hb5 2 (.slice ta M.length tc) rfl
        clear hX5 hb5 htb hlB hls hxt hxs hxm hx hf hxe HSM HVV
        go_wp2_with fail
        refine HSX.out.mono ?_
        rintro e w8 ⟨rfl, hw8⟩
        have HE8 := Lib.hid (HZ5.out.trans hw8)
        clear hw8 hl HSX
        go_wp2_with fail
        go_ret
        rw [HV.out]
        by_cases e : bt = .mk m r M
        · rw [if_pos e, decide_eq_true e]
          exact ⟨rfl, HE8.out.mono (fun _ _ h => h.elim), fun C h => by injection h with h; rw [← h]; exact HBD.out.ext HE8.out⟩
        · rw [if_neg e, decide_eq_false e]
          exact ⟨rfl, HE8.out.mono (fun _ _ h => h.elim), fun _ h => by cases h⟩
      | none =>
        obtain ⟨hf, hnn⟩ := (afind_be l n).1 (by rw [hlB]; exact hx)
        rw [hf] at hl
        simp only [Option.getD_none, Option.isSome_none] at hl
        have HV : Hid (V = some (B ++ [(n, s, .mk m r M)])) := Lib.hid (by rw [← HVV.out]; exact mtB_new HSN.out HNOT.out hx)
        have hX5 := (Upd.refl (fun _ => False) w4).alloc (.cells #[.string ⟨#[]⟩, .string ⟨#[]⟩, .string ⟨#[]⟩, .string ⟨#[]⟩, .slice none 0 0] 93)
        have HZ5 := Lib.hid (HE4.out.trans hX5)
        have ha5 := allocOld HA4.out (.cells #[.string ⟨#[]⟩, .string ⟨#[]⟩, .string ⟨#[]⟩, .string ⟨#[]⟩, .slice none 0 0] 93)
        have hb5 := allocOld HB4.out (.cells #[.string ⟨#[]⟩, .string ⟨#[]⟩, .string ⟨#[]⟩, .string ⟨#[]⟩, .slice none 0 0] 93)
        obtain ⟨W4, hput0, hmp, hu⟩ := MpR.put (P := Tryz.prog) (t := 98) (strKey Tryz.underlying9) Tryz.underlying98 (htb.mp.ext HZ5.out) n (.agg #[.string n, .string s, .string m, .string r, .slice ta M.length tc])
        have hput : (Instr.mapUpdate 98 (.map (some b)) (.string n) (.agg #[.string n, .string s, .string m, .string r, .slice ta M.length tc])).run Tryz.prog (w4.alloc (.cells #[.string ⟨#[]⟩, .string ⟨#[]⟩, .string ⟨#[]⟩, .string ⟨#[]⟩, .slice none 0 0] 93)) = .ok () W4 := hput0
        have HU4 : Hid (Upd (fun k => k = b) w W4) := Lib.hid ((HZ5.out.mono (fun _ _ h => h.elim)).trans hu)
        have HBN : Hid (TbB T W4 b (B ++ [(n, s, .mk m r M)])) := Lib.hid (by
          obtain ⟨x', hx'⟩ : ∃ x' : Be, x' = ((n, s, .mk m r M), ta, M.length, tc) := ⟨_, rfl⟩
          have hxn : x'.1.1 ∉ l.map fun x => x.1.1 := by rw [hx']; exact hnn
          have hF : ∀ k, T k → ¬ k = b := fun k hk e => HNT.out (e ▸ hk)
          refine ⟨putB l x', ⟨?_, putB_nodup htb.nd, fun z hz => ?_⟩, ?_, fun z hz => ?_⟩
          · rw [putB_aput, hx']
            exact hmp
          · rw [putB_out hxn] at hz
            rcases List.mem_append.1 hz with hz | hz
            · exact (htb.tl z hz).kept HU4.out hF
            · rw [List.mem_singleton] at hz
              rw [hz, hx']
              exact HTM.out.kept HU4.out hF
          · rw [putB_out hxn, List.map_append, hlB, hx']
            rfl
          · rw [putB_out hxn] at hz
            rcases List.mem_append.1 hz with hz | hz
            · exact hls z hz
            · rw [List.mem_singleton] at hz
              rw [hz, hx']
              exact HSZT.out)
        have c0 := cellRow ha5 0 (.string n) rfl
        have c1 := cellRow ha5 1 (.string s) rfl
        have c2 := cellRow ha5 2 (.slice pa L.length pc) rfl
        have d0 := cellRow hb5 0 (.string m) rfl
        have d1 := cellRow hb5 1 (.string r) rfl
        have d2 := cellRow hb5 2 (.slice ta M.length tc) rfl
        clear hX5 ha5 hb5 htb hlB hls hput0 hmp hu hnn hx hf HSM HVV HBD
        go_wp2_with fail
        go_ret
        rw [HV.out]
        exact ⟨rfl, HU4.out, fun C h => by injection h with h; rw [← h]; exact HBN.out⟩
    · rw [decide_eq_false hr0] at HV2
      have t1 := str_dc r s
      by_cases hrs : r = s
      · rw [decide_eq_true hrs] at t1
        have HNOT : Hid (¬ (r ≠ nul ∧ r ≠ s)) := Lib.hid (fun h => h.2 hrs)
        clear hr0 hrs
        go_wp2_with fail
        refine (HV2.out _).mono ?_
        rintro e w4 ⟨rfl, hw4⟩
        have HE4 := Lib.hid (HE3.out.trans hw4)
        have HA4 := Lib.hid (hw4.heap HA3.out (fun h => h))
        have HB4 := Lib.hid (hw4.heap HB3.out (fun h => h))
        clear hw4 b0 b1 b2 HV2 HA3 HB3 HE3
        have a0 := cellRow HA4.out 0 (.string n) rfl
        have a1 := cellRow HA4.out 1 (.string s) rfl
        have a2 := cellRow HA4.out 2 (.slice pa L.length pc) rfl
        have b0 := cellRow HB4.out 0 (.string m) rfl
        have b1 := cellRow HB4.out 1 (.string r) rfl
        have b2 := cellRow HB4.out 2 (.slice ta M.length tc) rfl
        obtain ⟨l, htb, hlB, hls⟩ := HBD.out
        have hl := MpR.get (P := Tryz.prog) (t := 98) (strKey Tryz.underlying9) Tryz.underlying98 (z := .agg #[.string ⟨#[]⟩, .string ⟨#[]⟩, .string ⟨#[]⟩, .string ⟨#[]⟩, .slice none 0 0]) (Tryz.zeroValue93 w4) (htb.mp.ext HE4.out) n true
        simp only [if_true] at hl
        cases hx : bget B n with
        | some x =>
          obtain ⟨xb, hxm, hxe, hf⟩ := (afind_be l n).2 x (by rw [hlB]; exact hx)
          rw [hf] at hl
          simp only [Option.getD_some, Option.isSome_some] at hl
          have hxt := htb.tl xb hxm
          have hxs := hls xb hxm
          obtain ⟨⟨bn, bs, bt⟩, ba, bl, bc⟩ := xb
          simp only at hxe hxt hxs
          obtain rfl : bl = bt.kids.length := by
            obtain ⟨a, c, h⟩ := hxt.shape
            injection h
          simp only [beEnc, beV] at hl
          have HV : Hid (V = if bt = .mk m r M then some B else none) := Lib.hid (by rw [← HVV.out]; exact mtB_some HSN.out HNOT.out (by rw [hx, hxe]))
          have hX5 := (Upd.refl (fun _ => False) w4).alloc (.cells #[.string bn, .string bs, .string bt.name, .string bt.sort, .slice ba bt.kids.length bc] 93)
          have HZ5 := Lib.hid (HE4.out.trans hX5)
          have hb5 := allocOld HB4.out (.cells #[.string bn, .string bs, .string bt.name, .string bt.sort, .slice ba bt.kids.length bc] 93)
          have HSX := Lib.hid (HSM.out bt _ _ ⟨ba, bc, rfl, hxt.ext HZ5.out⟩ hxs HZ5.out)
          dsimp only [tV] at HSX
          have d0 := cellRow hb5 0 (.string m) rfl
          have d1 := cellRow hb5 1 (.string r) rfl
          have d2 := cellRow hb5 2 (.slice ta M.length tc) rfl
          clear hX5 hb5 htb hlB hls hxt hxs hxm hx hf hxe HSM HVV
          go_wp2_with fail
          refine HSX.out.mono ?_
          rintro e w8 ⟨rfl, hw8⟩
          have HE8 := Lib.hid (HZ5.out.trans hw8)
          clear hw8 hl HSX
          go_wp2_with fail
          go_ret
          rw [HV.out]
          by_cases e : bt = .mk m r M
          · rw [if_pos e, decide_eq_true e]
            exact ⟨rfl, HE8.out.mono (fun _ _ h => h.elim), fun C h => by injection h with h; rw [← h]; exact HBD.out.ext HE8.out⟩
          · rw [if_neg e, decide_eq_false e]
            exact ⟨rfl, HE8.out.mono (fun _ _ h => h.elim), fun _ h => by cases h⟩
        | none =>
          obtain ⟨hf, hnn⟩ := (afind_be l n).1 (by rw [hlB]; exact hx)
          rw [hf] at hl
          simp only [Option.getD_none, Option.isSome_none] at hl
          have HV : Hid (V = some (B ++ [(n, s, .mk m r M)])) := Lib.hid (by rw [← HVV.out]; exact mtB_new HSN.out HNOT.out hx)
          have hX5 := (Upd.refl (fun _ => False) w4).alloc (.cells #[.string ⟨#[]⟩, .string ⟨#[]⟩, .string ⟨#[]⟩, .string ⟨#[]⟩, .slice none 0 0] 93)
          have HZ5 := Lib.hid (HE4.out.trans hX5)
          have ha5 := allocOld HA4.out (.cells #[.string ⟨#[]⟩, .string ⟨#[]⟩, .string ⟨#[]⟩, .string ⟨#[]⟩, .slice none 0 0] 93)
          have hb5 := allocOld HB4.out (.cells #[.string ⟨#[]⟩, .string ⟨#[]⟩, .string ⟨#[]⟩, .string ⟨#[]⟩, .slice none 0 0] 93)
          obtain ⟨W4, hput0, hmp, hu⟩ := MpR.put (P := Tryz.prog) (t := 98) (strKey Tryz.underlying9) Tryz.underlying98 (htb.mp.ext HZ5.out) n (.agg #[.string n, .string s, .string m, .string r, .slice ta M.length tc])
          have hput : (Instr.mapUpdate 98 (.map (some b)) (.string n) (.agg #[.string n, .string s, .string m, .string r, .slice ta M.length tc])).run Tryz.prog (w4.alloc (.cells #[.string ⟨#[]⟩, .string ⟨#[]⟩, .string ⟨#[]⟩, .string ⟨#[]⟩, .slice none 0 0] 93)) = .ok () W4 := hput0
          have HU4 : Hid (Upd (fun k => k = b) w W4) := Lib.hid ((HZ5.out.mono (fun _ _ h => h.elim)).trans hu)
          have HBN : Hid (TbB T W4 b (B ++ [(n, s, .mk m r M)])) := Lib.hid (by
            obtain ⟨x', hx'⟩ : ∃ x' : Be, x' = ((n, s, .mk m r M), ta, M.length, tc) := ⟨_, rfl⟩
            have hxn : x'.1.1 ∉ l.map fun x => x.1.1 := by rw [hx']; exact hnn
            have hF : ∀ k, T k → ¬ k = b := fun k hk e => HNT.out (e ▸ hk)
            refine ⟨putB l x', ⟨?_, putB_nodup htb.nd, fun z hz => ?_⟩, ?_, fun z hz => ?_⟩
            · rw [putB_aput, hx']
              exact hmp
            · rw [putB_out hxn] at hz
              rcases List.mem_append.1 hz with hz | hz
              · exact (htb.tl z hz).kept HU4.out hF
              · rw [List.mem_singleton] at hz
                rw [hz, hx']
                exact HTM.out.kept HU4.out hF
            · rw [putB_out hxn, List.map_append, hlB, hx']
              rfl
            · rw [putB_out hxn] at hz
              rcases List.mem_append.1 hz with hz | hz
              · exact hls z hz
              · rw [List.mem_singleton] at hz
                rw [hz, hx']
                exact HSZT.out)
          have c0 := cellRow ha5 0 (.string n) rfl
          have c1 := cellRow ha5 1 (.string s) rfl
          have c2 := cellRow ha5 2 (.slice pa L.length pc) rfl
          have d0 := cellRow hb5 0 (.string m) rfl
          have d1 := cellRow hb5 1 (.string r) rfl
          have d2 := cellRow hb5 2 (.slice ta M.length tc) rfl
          clear hX5 ha5 hb5 htb hlB hls hput0 hmp hu hnn hx hf HSM HVV HBD
          go_wp2_with fail
          go_ret
          rw [HV.out]
          exact ⟨rfl, HU4.out, fun C h => by injection h with h; rw [← h]; exact HBN.out⟩
      · rw [decide_eq_false hrs] at t1
        have HV : Hid (V = none) := Lib.hid (by rw [← HVV.out]; exact mtB_sort HSN.out ⟨hr0, hrs⟩)
        clear hr0 hrs
        go_wp2_with fail
        refine (HV2.out _).mono ?_
        rintro e w4 ⟨rfl, hw4⟩
        have HE4 := Lib.hid (HE3.out.trans hw4)
        have HA4 := Lib.hid (hw4.heap HA3.out (fun h => h))
        have HB4 := Lib.hid (hw4.heap HB3.out (fun h => h))
        clear hw4 b0 b1 b2 HV2 HA3 HB3 HE3
        have a0 := cellRow HA4.out 0 (.string n) rfl
        have a1 := cellRow HA4.out 1 (.string s) rfl
        have a2 := cellRow HA4.out 2 (.slice pa L.length pc) rfl
        have b0 := cellRow HB4.out 0 (.string m) rfl
        have b1 := cellRow HB4.out 1 (.string r) rfl
        have b2 := cellRow HB4.out 2 (.slice ta M.length tc) rfl
        go_wp2_with fail
        go_ret
        rw [HV.out]
        exact ⟨rfl, HE4.out.mono (fun _ _ h => h.elim), fun _ h => by cases h⟩

end Go.Proofs.YtlkcjmaiahnodaaGreatDoor

/- Instance, Variant. -/
namespace Go.Proofs.YtlkcjmaiahnodaaGreatDoor
open Go.RowKit Go.Hw Go
set_option linter.unusedVariables false
set_option linter.unusedSimpArgs false

open Tm Go.Sort Go.Proofs Go.ChangeMaps
def insF (a b : Tm) : Bool × Int := if (wf nmB a && wf nmB b) = true then ((mtB a b []).isSome, 0) else (false, 1)
def varF' (a b : Tm) : Bool × Int := if (wf nmB a && wf nmB b) = true then ((mtB a b []).isSome && (mtB b a []).isSome, 0) else (false, 1)
set_option maxRecDepth 100000 in
set_option maxHeartbeats 2000000 in
theorem instance_x (a b : Tm) (va vb : Value) (w : World) (htab : AscT w) (hA : TmR (fun k => k < w.heap.size) w a va) (hB : TmR (fun k => k < w.heap.size) w b vb) (hsa : a.size ≤ 100000) (hsb : b.size ≤ 100000) :
    Calls Tryz.prog 23 #[va, vb] w fun e w' => e = .returned (.tuple #[.bool (insF a b).1, .int .i64 (insF a b).2]) ∧ Ext w w' := by
  have HA := Lib.hid hA
  have HB := Lib.hid hB
  have HSA := Lib.hid (And.intro hsa hsb)
  obtain ⟨aa, ac, rfl, hTa⟩ := hA
  obtain ⟨ba, bc, rfl, hTb⟩ := hB
  have HFa := Lib.hid (fun W (hW : Ext w W) => uform_x a _ W (asc_ext htab hW) ((HA.out.ext hW).weaken (fun k hk => Nat.lt_of_lt_of_le hk hW.size)) (by omega))
  have HFb := Lib.hid (fun W (hW : Ext w W) => uform_x b _ W (asc_ext htab hW) ((HB.out.ext hW).weaken (fun k hk => Nat.lt_of_lt_of_le hk hW.size)) (by omega))
  dsimp only [tV] at HFa HFb ⊢
  have HZ := Lib.hid (((Upd.refl (fun _ => False) w).alloc (.cells #[.string a.name, .string a.sort, .slice aa a.kids.length ac] 24)).alloc (.cells #[.string b.name, .string b.sort, .slice ba b.kids.length bc] 24))
  have HZ2 : Hid (w.heap.size + 2 ≤ ((w.alloc (.cells #[.string a.name, .string a.sort, .slice aa a.kids.length ac] 24)).alloc (.cells #[.string b.name, .string b.sort, .slice ba b.kids.length bc] 24)).heap.size) := Lib.hid (by simp)
  have H2 := Lib.hid (allocOld (alloc0 w (.cells #[.string a.name, .string a.sort, .slice aa a.kids.length ac] 24)) (.cells #[.string b.name, .string b.sort, .slice ba b.kids.length bc] 24))
  have H3 := Lib.hid (alloc_at (w.alloc (.cells #[.string a.name, .string a.sort, .slice aa a.kids.length ac] 24)) (.cells #[.string b.name, .string b.sort, .slice ba b.kids.length bc] 24) (n := w.heap.size + 1) (by simp))
  have x0 := cellRow H2.out 0 (.string a.name) rfl
  have x1 := cellRow H2.out 1 (.string a.sort) rfl
  have x2 := cellRow H2.out 2 (.slice aa a.kids.length ac) rfl
  obtain ⟨RR, hRR⟩ : ∃ x, insF a b = x := ⟨_, rfl⟩
  have HRR := Lib.hid hRR
  rw [hRR]
  clear hRR hTa hTb htab hsa hsb
  have hmm := @run_makeMap Tryz.prog
  cases hwa : wf nmB a with
  | false =>
    rw [hwa] at HFa
    have hR : RR = (false, 1) := by rw [← HRR.out]; unfold insF; rw [hwa]; rfl
    subst hR
    clear hwa
    go_enter Tryz.func23, Tryz.ntmps23
    go_wp2_with fail
    refine (HFa.out _ HZ.out).mono ?_
    rintro e w3 ⟨rfl, hw3⟩
    have HE3 := Lib.hid (HZ.out.trans hw3)
    clear hw3 x0 x1 x2 H2 H3 HZ HFa
    go_wp2_with fail
    go_ret2
    exact ⟨rfl, HE3.out⟩
  | true =>
    rw [hwa] at HFa
    have HWA := Lib.hid hwa
    clear hwa
    go_enter Tryz.func23, Tryz.ntmps23
    go_wp2_with fail
    refine (HFa.out _ HZ.out).mono ?_
    rintro e w3 ⟨rfl, hw3⟩
    have HE3 := Lib.hid (HZ.out.trans hw3)
    have HS3 : Hid (w.heap.size + 2 ≤ w3.heap.size) := Lib.hid (Nat.le_trans HZ2.out hw3.size)
    have H23 := Lib.hid (hw3.heap H2.out (fun h => h))
    have H33 := Lib.hid (hw3.heap H3.out (fun h => h))
    clear hw3 x0 x1 x2 H2 H3 HZ HFa
    have y0 := cellRow H33.out 0 (.string b.name) rfl
    have y1 := cellRow H33.out 1 (.string b.sort) rfl
    have y2 := cellRow H33.out 2 (.slice ba b.kids.length bc) rfl
    cases hwb : wf nmB b with
    | false =>
      rw [hwb] at HFb
      have hR : RR = (false, 1) := by rw [← HRR.out]; unfold insF; rw [HWA.out, hwb]; rfl
      subst hR
      clear hwb
      go_wp2_with fail
      refine (HFb.out _ HE3.out).mono ?_
      rintro e w4 ⟨rfl, hw4⟩
      have HE4 := Lib.hid (HE3.out.trans hw4)
      clear hw4 y0 y1 y2 H23 H33 HE3 HFb
      go_wp2_with fail
      go_ret2
      exact ⟨rfl, HE4.out⟩
    | true =>
      rw [hwb] at HFb
      have HWB := Lib.hid hwb
      clear hwb
      go_wp2_with fail
      refine (HFb.out _ HE3.out).mono ?_
      rintro e w4 ⟨rfl, hw4⟩
      have HE4 := Lib.hid (HE3.out.trans hw4)
      have HZS : Hid (w.heap.size + 2 ≤ w4.heap.size) := Lib.hid (Nat.le_trans HS3.out hw4.size)
      have hX5 := (Upd.refl (fun _ => False) w4).alloc (.map #[] 0)
      have HE5 := Lib.hid (HE4.out.trans hX5)
      have H25 := Lib.hid (allocOld (hw4.heap H23.out (fun h => h)) (.map #[] 0))
      have H35 := Lib.hid (allocOld (hw4.heap H33.out (fun h => h)) (.map #[] 0))
      have HM := Lib.hid (umatch_x a b _ _ (fun k => k < w.heap.size) (fun k => k < w.heap.size) [] w4.heap.size _ (HA.out.ext HE5.out) (HB.out.ext HE5.out) (TbB.made _ w4) (by have := HE4.out.size; omega) (by have := HE4.out.size; omega) (by have := HSA.out.1; omega) HSA.out.2)
      dsimp only [tV] at HM
      have hwb4 := HE4.out.size
      have HWB4 := Lib.hid hwb4
      clear hw4 y0 y1 y2 H23 H33 HE3 HFb hX5 hwb4
      have x0 := cellRow H25.out 0 (.string a.name) rfl
      have x1 := cellRow H25.out 1 (.string a.sort) rfl
      have x2 := cellRow H25.out 2 (.slice aa a.kids.length ac) rfl
      have y0 := cellRow H35.out 0 (.string b.name) rfl
      have y1 := cellRow H35.out 1 (.string b.sort) rfl
      have y2 := cellRow H35.out 2 (.slice ba b.kids.length bc) rfl
      go_wp2_with fail
      refine HM.out.mono ?_
      rintro e w6 ⟨rfl, hw6, _⟩
      have HE6 : Hid (Ext w w6) := Lib.hid (HE5.out.trans' hw6 (fun j hj e => by have := HWB4.out; omega))
      have hR : RR = ((mtB a b []).isSome, 0) := by rw [← HRR.out]; unfold insF; rw [HWA.out, HWB.out]; rfl
      subst hR
      clear hw6 HM x0 x1 x2 y0 y1 y2
      go_wp2_with fail
      go_ret2
      exact ⟨rfl, HE6.out⟩
set_option maxRecDepth 100000 in
set_option maxHeartbeats 2000000 in
theorem variant_x (a b : Tm) (va vb : Value) (w : World) (htab : AscT w) (hA : TmR (fun k => k < w.heap.size) w a va) (hB : TmR (fun k => k < w.heap.size) w b vb) (hsa : a.size ≤ 100000) (hsb : b.size ≤ 100000) :
    Calls Tryz.prog 22 #[va, vb] w fun e w' => e = .returned (.tuple #[.bool (varF' a b).1, .int .i64 (varF' a b).2]) ∧ Ext w w' := by
  have HA := Lib.hid hA
  have HB := Lib.hid hB
  have HSA := Lib.hid (And.intro hsa hsb)
  obtain ⟨aa, ac, rfl, hTa⟩ := hA
  obtain ⟨ba, bc, rfl, hTb⟩ := hB
  have HFa := Lib.hid (fun W (hW : Ext w W) => uform_x a _ W (asc_ext htab hW) ((HA.out.ext hW).weaken (fun k hk => Nat.lt_of_lt_of_le hk hW.size)) (by omega))
  have HFb := Lib.hid (fun W (hW : Ext w W) => uform_x b _ W (asc_ext htab hW) ((HB.out.ext hW).weaken (fun k hk => Nat.lt_of_lt_of_le hk hW.size)) (by omega))
  dsimp only [tV] at HFa HFb ⊢
  have HZ := Lib.hid (((Upd.refl (fun _ => False) w).alloc (.cells #[.string a.name, .string a.sort, .slice aa a.kids.length ac] 24)).alloc (.cells #[.string b.name, .string b.sort, .slice ba b.kids.length bc] 24))
  have HZ2 : Hid (w.heap.size + 2 ≤ ((w.alloc (.cells #[.string a.name, .string a.sort, .slice aa a.kids.length ac] 24)).alloc (.cells #[.string b.name, .string b.sort, .slice ba b.kids.length bc] 24)).heap.size) := Lib.hid (by simp)
  have H2 := Lib.hid (allocOld (alloc0 w (.cells #[.string a.name, .string a.sort, .slice aa a.kids.length ac] 24)) (.cells #[.string b.name, .string b.sort, .slice ba b.kids.length bc] 24))
  have H3 := Lib.hid (alloc_at (w.alloc (.cells #[.string a.name, .string a.sort, .slice aa a.kids.length ac] 24)) (.cells #[.string b.name, .string b.sort, .slice ba b.kids.length bc] 24) (n := w.heap.size + 1) (by simp))
  have x0 := cellRow H2.out 0 (.string a.name) rfl
  have x1 := cellRow H2.out 1 (.string a.sort) rfl
  have x2 := cellRow H2.out 2 (.slice aa a.kids.length ac) rfl
  obtain ⟨RR, hRR⟩ : ∃ x, varF' a b = x := ⟨_, rfl⟩
  have HRR := Lib.hid hRR
  rw [hRR]
  clear hRR hTa hTb htab hsa hsb
  have hmm := @run_makeMap Tryz.prog
  cases hwa : wf nmB a with
  | false =>
    rw [hwa] at HFa
    have hR : RR = (false, 1) := by rw [← HRR.out]; unfold varF'; rw [hwa]; rfl
    subst hR
    clear hwa
    go_enter Tryz.func22, Tryz.ntmps22
    go_wp2_with fail
    refine (HFa.out _ HZ.out).mono ?_
    rintro e w3 ⟨rfl, hw3⟩
    have HE3 := Lib.hid (HZ.out.trans hw3)
    clear hw3 x0 x1 x2 H2 H3 HZ HFa
    go_wp2_with fail
    go_ret2
    exact ⟨rfl, HE3.out⟩
  | true =>
    rw [hwa] at HFa
    have HWA := Lib.hid hwa
    clear hwa
    go_enter Tryz.func22, Tryz.ntmps22
    go_wp2_with fail
    refine (HFa.out _ HZ.out).mono ?_
    rintro e w3 ⟨rfl, hw3⟩
    have HE3 := Lib.hid (HZ.out.trans hw3)
    have HS3 : Hid (w.heap.size + 2 ≤ w3.heap.size) := Lib.hid (Nat.le_trans HZ2.out hw3.size)
    have H23 := Lib.hid (hw3.heap H2.out (fun h => h))
    have H33 := Lib.hid (hw3.heap H3.out (fun h => h))
    clear hw3 x0 x1 x2 H2 H3 HZ HFa
    have y0 := cellRow H33.out 0 (.string b.name) rfl
    have y1 := cellRow H33.out 1 (.string b.sort) rfl
    have y2 := cellRow H33.out 2 (.slice ba b.kids.length bc) rfl
    cases hwb : wf nmB b with
    | false =>
      rw [hwb] at HFb
      have hR : RR = (false, 1) := by rw [← HRR.out]; unfold varF'; rw [HWA.out, hwb]; rfl
      subst hR
      clear hwb
      go_wp2_with fail
      refine (HFb.out _ HE3.out).mono ?_
      rintro e w4 ⟨rfl, hw4⟩
      have HE4 := Lib.hid (HE3.out.trans hw4)
      clear hw4 y0 y1 y2 H23 H33 HE3 HFb
      go_wp2_with fail
      go_ret2
      exact ⟨rfl, HE4.out⟩
    | true =>
      rw [hwb] at HFb
      have HWB := Lib.hid hwb
      clear hwb
      go_wp2_with fail
      refine (HFb.out _ HE3.out).mono ?_
      rintro e w4 ⟨rfl, hw4⟩
      have HE4 := Lib.hid (HE3.out.trans hw4)
      have HZS : Hid (w.heap.size + 2 ≤ w4.heap.size) := Lib.hid (Nat.le_trans HS3.out hw4.size)
      have hX5 := (Upd.refl (fun _ => False) w4).alloc (.map #[] 0)
      have HE5 := Lib.hid (HE4.out.trans hX5)
      have H25 := Lib.hid (allocOld (hw4.heap H23.out (fun h => h)) (.map #[] 0))
      have H35 := Lib.hid (allocOld (hw4.heap H33.out (fun h => h)) (.map #[] 0))
      have HM := Lib.hid (umatch_x a b _ _ (fun k => k < w.heap.size) (fun k => k < w.heap.size) [] w4.heap.size _ (HA.out.ext HE5.out) (HB.out.ext HE5.out) (TbB.made _ w4) (by have := HE4.out.size; omega) (by have := HE4.out.size; omega) (by have := HSA.out.1; omega) HSA.out.2)
      dsimp only [tV] at HM
      have hwb4 := HE4.out.size
      have HWB4 := Lib.hid hwb4
      clear hw4 y0 y1 y2 H23 H33 HE3 HFb hX5 hwb4
      have x0 := cellRow H25.out 0 (.string a.name) rfl
      have x1 := cellRow H25.out 1 (.string a.sort) rfl
      have x2 := cellRow H25.out 2 (.slice aa a.kids.length ac) rfl
      have y0 := cellRow H35.out 0 (.string b.name) rfl
      have y1 := cellRow H35.out 1 (.string b.sort) rfl
      have y2 := cellRow H35.out 2 (.slice ba b.kids.length bc) rfl
      go_wp2_with fail
      refine HM.out.mono ?_
      rintro e w6 ⟨rfl, hw6, _⟩
      have HE6 : Hid (Ext w w6) := Lib.hid (HE5.out.trans' hw6 (fun j hj e => by have := HWB4.out; omega))
      have HNE : Hid (w.heap.size + 2 ≤ w4.heap.size) := Lib.hid (by have h1 := HZS.out; exact h1)
      have H26 := Lib.hid (hw6.heap H25.out (fun e => by have := HNE.out; omega))
      have H36 := Lib.hid (hw6.heap H35.out (fun e => by have := HNE.out; omega))
      cases hm1 : (mtB a b []).isSome with
      | false =>
        have hR : RR = (false, 0) := by rw [← HRR.out]; unfold varF'; rw [HWA.out, HWB.out, hm1]; rfl
        subst hR
        clear hw6 HM x0 x1 x2 y0 y1 y2 hm1
        go_wp2_with fail
        go_ret2
        exact ⟨rfl, HE6.out⟩
      | true =>
        have hR : RR = ((mtB b a []).isSome, 0) := by rw [← HRR.out]; unfold varF'; rw [HWA.out, HWB.out, hm1]; simp
        subst hR
        have hX7 := (Upd.refl (fun _ => False) w6).alloc (.map #[] 0)
        have HE7 := Lib.hid (HE6.out.trans hX7)
        have H27 := Lib.hid (allocOld H26.out (.map #[] 0))
        have H37 := Lib.hid (allocOld H36.out (.map #[] 0))
        have HM2 := Lib.hid (umatch_x b a _ _ (fun k => k < w.heap.size) (fun k => k < w.heap.size) [] w6.heap.size _ (HB.out.ext HE7.out) (HA.out.ext HE7.out) (TbB.made _ w6) (by have := HE6.out.size; omega) (by have := HE6.out.size; omega) (by have := HSA.out.2; omega) HSA.out.1)
        dsimp only [tV] at HM2
        have HWB6 := Lib.hid HE6.out.size
        clear hw6 HM x0 x1 x2 y0 y1 y2 hm1 hX7 H26 H36
        have x0 := cellRow H27.out 0 (.string a.name) rfl
        have x1 := cellRow H27.out 1 (.string a.sort) rfl
        have x2 := cellRow H27.out 2 (.slice aa a.kids.length ac) rfl
        have y0 := cellRow H37.out 0 (.string b.name) rfl
        have y1 := cellRow H37.out 1 (.string b.sort) rfl
        have y2 := cellRow H37.out 2 (.slice ba b.kids.length bc) rfl
        go_wp2_with fail
        refine HM2.out.mono ?_
        rintro e w8 ⟨rfl, hw8, _⟩
        have HE8 : Hid (Ext w w8) := Lib.hid (HE7.out.trans' hw8 (fun j hj e => by have := HWB6.out; omega))
        clear hw8 HM2 x0 x1 x2 y0 y1 y2
        go_wp2_with fail
        go_ret2
        exact ⟨rfl, HE8.out⟩

end Go.Proofs.YtlkcjmaiahnodaaGreatDoor

/- Rename. -/
namespace Go.Proofs.YtlkcjmaiahnodaaGreatDoor
open Go.RowKit Go.Hw Go
set_option linter.unusedVariables false
set_option linter.unusedSimpArgs false

open Tm Go.Sort Go.Proofs Go.ChangeMaps
set_option maxRecDepth 100000 in
set_option maxHeartbeats 2000000 in
theorem rn81_x (nm so suf : By) (a : Option Addr) (n cap sb : Nat) (w : World) (hs : w.cell? ⟨sb, 0, none⟩ = some (.string suf)) (hl : nm.size + suf.size ≤ 100000) : Calls Tryz.prog 81 #[.agg #[.string nm, .string so, .slice a n cap], .pointer (some ⟨sb, 0, none⟩)] w fun e w' => e = .returned (.agg #[.string (nm ++ suf), .string so, .slice none 0 0]) ∧ Ext w w' := by
  have hs2 := (((Upd.refl (fun _ => False) w).alloc (.cells #[.string nm, .string so, .slice a n cap] 24)).alloc (.cells #[.string ⟨#[]⟩, .string ⟨#[]⟩, .slice none 0 0] 24)).cell hs (fun h => h)
  have HX := Lib.hid (((Upd.refl (fun _ => False) w).alloc (.cells #[.string nm, .string so, .slice a n cap] 24)).alloc (.cells #[.string (nm ++ suf), .string so, .slice none 0 0] 24))
  go_enter Tryz.func81, Tryz.ntmps81
  go_wp2_with fail
  have hb := alloc_at (w.alloc (.cells #[.string nm, .string so, .slice a n cap] 24)) (.cells #[.string (nm ++ suf), .string so, .slice none 0 0] 24) (n := w.heap.size + 1) (by simp)
  have e0 := cellRow hb 0 _ rfl
  have e1 := cellRow hb 1 _ rfl
  have e2 := cellRow hb 2 _ rfl
  exact bodyPost_ret (v := .agg #[.string (nm ++ suf), .string so, .slice none 0 0]) (by simp [results, Tryz.results81, go_sem, e0, e1, e2]) rfl ⟨rfl, HX.out⟩
set_option maxRecDepth 100000 in
set_option maxHeartbeats 2000000 in
theorem rep81_x (suf : By) (sb : Nat) (w0 : World) (HSB : Hid (∀ W, Ext w0 W → W.cell? ⟨sb, 0, none⟩ = some (.string suf))) : ∀ (t : Tm) (v : Value) (S : Nat → Prop) (w : World), Ext w0 w → TmR S w t v → (∀ k, S k → k < w.heap.size) → t.size ≤ 100000 → (∀ f ∈ vof t, f.1.size + suf.size ≤ 100000) →
    Calls Tryz.prog 80 #[v, .func (.func 81) #[] #[.pointer (some ⟨sb, 0, none⟩)]] w fun e w' => ∃ r B, e = .returned (tV (sbT (fun n s => vr (n ++ suf) s) t) r) ∧ TlO 24 w' B (sbT (fun n s => vr (n ++ suf) s) t).kids r ∧ (∀ j, B j → w.heap.size ≤ j ∧ j < w'.heap.size) ∧ Ext w w' := by
  refine Tm.ind (fun n s L ih => ?_)
  intro v S w hw0 hT hS hsz hok
  obtain ⟨Z, hZZ⟩ : ∃ Z, sbT (fun n s => vr (n ++ suf) s) (.mk n s L) = Z := ⟨_, rfl⟩
  rw [hZZ]
  have HZZ := Lib.hid hZZ
  clear hZZ
  obtain ⟨a, cap, rfl, hT⟩ := hT
  dsimp only [tV, Tm.name, Tm.sort, Tm.kids] at hT ⊢
  have HTL := Lib.hid hT
  have HIH := Lib.hid ih
  have HSS := Lib.hid hS
  have HW0 := Lib.hid hw0
  have HOK := Lib.hid hok
  have hszL : sizes L + 1 ≤ 100000 := by rw [size_eq] at hsz; simp only [Tm.kids] at hsz; omega
  have HSL := Lib.hid hszL
  have hlL : L.length ≤ 100000 := by have h1 := length_le_sizes L; omega
  have HV1 := Lib.hid (fun W => variable_x n s a L.length cap W)
  have hZ := ((Upd.refl (fun _ => False) w).alloc (.cells #[.string n, .string s, .slice a L.length cap] 24)).alloc (.cells #[.string ⟨#[]⟩, .string ⟨#[]⟩, .slice none 0 0] 24)
  have HB2 := Lib.hid (allocOld (alloc0 w (.cells #[.string n, .string s, .slice a L.length cap] 24)) (.cells #[.string ⟨#[]⟩, .string ⟨#[]⟩, .slice none 0 0] 24))
  have HB3 := Lib.hid (alloc_at (w.alloc (.cells #[.string n, .string s, .slice a L.length cap] 24)) (.cells #[.string ⟨#[]⟩, .string ⟨#[]⟩, .slice none 0 0] 24) (n := w.heap.size + 1) (by simp))
  have hz2 : w.heap.size + 2 ≤ ((w.alloc (.cells #[.string n, .string s, .slice a L.length cap] 24)).alloc (.cells #[.string ⟨#[]⟩, .string ⟨#[]⟩, .slice none 0 0] 24)).heap.size := by simp
  have x0 := cellRow HB2.out 0 (.string n) rfl
  have x1 := cellRow HB2.out 1 (.string s) rfl
  have x2 := cellRow HB2.out 2 (.slice a L.length cap) rfl
  have HZ := Lib.hid hZ
  have HZ2 := Lib.hid hz2
  clear ih hT hS hsz hszL hZ hz2 hw0 hok
  by_cases hs0 : s = nul
  rotate_left
  · rw [decide_eq_false hs0] at HV1
    obtain rfl : Z = vr (n ++ suf) s := by rw [← HZZ.out]; exact sbT_var _ hs0 L
    have HOK1 := Lib.hid (HOK.out (n, s) (vof_self hs0 L))
    clear hs0
    go_enter Tryz.func80, Tryz.ntmps80
    go_wp2_with fail
    refine (HV1.out _).mono ?_
    rintro e w3 ⟨rfl, hw3⟩
    have HE3 := Lib.hid (HZ.out.trans hw3)
    have HS3 : Hid (w.heap.size + 2 ≤ w3.heap.size) := Lib.hid (Nat.le_trans HZ2.out hw3.size)
    have HB23 := Lib.hid (hw3.heap HB2.out (fun h => h))
    have HB33 := Lib.hid (hw3.heap HB3.out (fun h => h))
    clear hw3 HV1 x0 x1 x2
    have x0 := cellRow HB23.out 0 (.string n) rfl
    have x1 := cellRow HB23.out 1 (.string s) rfl
    have x2 := cellRow HB23.out 2 (.slice a L.length cap) rfl
    go_wp2_with fail
    refine (rn81_x n s suf a L.length cap sb w3 (HSB.out _ (HW0.out.trans HE3.out)) HOK1.out).mono ?_
    rintro e w6 ⟨rfl, hw6⟩
    have HCP := Lib.hid (ucopied_x (vr (n ++ suf) s) (tV (vr (n ++ suf) s) (.slice none 0 0)) (fun k => k < w6.heap.size) w6 ⟨none, 0, rfl, TlR.nil _ _⟩ (fun k h => h) (by show 1 ≤ 100000; decide))
    dsimp only [tV, Tm.name, Tm.sort] at HCP ⊢
    have HE6 := Lib.hid (HE3.out.trans hw6)
    have HB36 := Lib.hid (hw6.heap HB33.out (fun h => h))
    have HS6 : Hid (w.heap.size + 2 ≤ w6.heap.size) := Lib.hid (Nat.le_trans HS3.out hw6.size)
    clear hw6 x0 x1 x2
    go_wp2_with fail
    refine HCP.out.mono ?_
    rintro e w7 ⟨r7, B7, rfl, hT7, hb7, hw7⟩
    obtain ⟨ya, yc, hry⟩ := TlO.shape hT7
    subst hry
    have HT7 := Lib.hid hT7
    have HB7 := Lib.hid hb7
    have HE7 := Lib.hid (HE6.out.trans hw7)
    have HB37 := Lib.hid (hw7.heap HB36.out (fun h => h))
    have d0 := cellRow HB37.out 0 (.string ⟨#[]⟩) rfl
    have d1 := cellRow HB37.out 1 (.string ⟨#[]⟩) rfl
    have d2 := cellRow HB37.out 2 (.slice none 0 0) rfl
    have f2 := fun i => frozenRow HB37.out i
    dsimp only [tV]
    try dsimp only [Tm.name, Tm.sort, Tm.kids, List.length_nil]
    clear hT7 hb7 hw7 HCP
    go_wp2_with fail
    have hr3 := st3_heap HB37.out (.string (n ++ suf)) (.string s) (.slice ya 0 yc)
    have hu := st3_upd' w7 (w.heap.size + 1) (.string (n ++ suf)) (.string s) (.slice ya 0 yc)
    have e0 := cellRow hr3 0 _ rfl
    have e1 := cellRow hr3 1 _ rfl
    have e2 := cellRow hr3 2 _ rfl
    have hs6 := HS6.out
    refine bodyPost_ret (v := .agg #[.string (n ++ suf), .string s, .slice ya 0 yc]) (by simp [results, Tryz.results80, go_sem, e0, e1, e2]) rfl ⟨.slice ya 0 yc, B7, rfl, HT7.out.kept hu (fun j hj e => by have h1 := (HB7.out j hj).1; omega), fun j hj => ⟨by have h1 := (HB7.out j hj).1; omega, Nat.lt_of_lt_of_le (HB7.out j hj).2 hu.size⟩, HE7.out.trans' hu (fun j hj e => by omega)⟩
  rw [decide_eq_true hs0] at HV1
  obtain rfl : Z = .mk n nul (L.map (sbT (fun n s => vr (n ++ suf) s))) := by rw [← HZZ.out, hs0]; exact sbT_opn _ n L
  have HOKL : Hid (∀ x ∈ L, ∀ f ∈ vof x, f.1.size + suf.size ≤ 100000) := Lib.hid (fun x hx f hf => HOK.out f (by
    rw [hs0, vof_op]
    exact List.mem_flatMap.2 ⟨x, hx, hf⟩))
  clear hs0
  go_enter Tryz.func80, Tryz.ntmps80
  go_wp2_with fail
  refine (HV1.out _).mono ?_
  rintro e w3 ⟨rfl, hw3⟩
  have HE3 := Lib.hid (HZ.out.trans hw3)
  have HB23 := Lib.hid (hw3.heap HB2.out (fun h => h))
  have HB33 := Lib.hid (hw3.heap HB3.out (fun h => h))
  have HS3 : Hid (w.heap.size + 2 ≤ w3.heap.size) := Lib.hid (Nat.le_trans HZ2.out hw3.size)
  clear hw3 HV1 x0 x1 x2
  have HX4 := Lib.hid ((Upd.refl (fun _ => False) w3).alloc (.cells #[.string n, .string ⟨#[]⟩, .slice none 0 0] 24))
  have HB24 := Lib.hid (allocOld HB23.out (.cells #[.string n, .string ⟨#[]⟩, .slice none 0 0] 24))
  have HB34 := Lib.hid (allocOld HB33.out (.cells #[.string n, .string ⟨#[]⟩, .slice none 0 0] 24))
  have HB44 := Lib.hid (alloc0 w3 (.cells #[.string n, .string ⟨#[]⟩, .slice none 0 0] 24))
  have HS4 : Hid (w3.heap.size + 1 ≤ (w3.alloc (.cells #[.string n, .string ⟨#[]⟩, .slice none 0 0] 24)).heap.size) := Lib.hid (by simp)
  have x0 := cellRow HB23.out 0 (.string n) rfl
  have x1 := cellRow HB23.out 1 (.string s) rfl
  have x2 := cellRow HB23.out 2 (.slice a L.length cap) rfl
  have u0 := cellRow HB24.out 0 (.string n) rfl
  have u1 := cellRow HB24.out 1 (.string s) rfl
  have u2 := cellRow HB24.out 2 (.slice a L.length cap) rfl
  go_wp2_with fail
  generalize w3.alloc (.cells #[.string n, .string ⟨#[]⟩, .slice none 0 0] 24) = w4 at *
  obtain ⟨n3, hn3⟩ : ∃ n3, w3.heap.size = n3 := ⟨_, rfl⟩
  rw [hn3] at HB44 HS4 HS3 ⊢
  have HE4 := Lib.hid (HE3.out.trans HX4.out)
  have HJ0 : Hid (CpJ 24 (n3 + 1) w4 (L.map (sbT (fun n s => vr (n ++ suf) s))) (.slice none 0 0) [] (fun _ _ => False) 0) := Lib.hid ⟨rfl, ⟨rfl, .inl ⟨rfl, rfl⟩⟩, fun i hi => absurd hi (Nat.not_lt_zero _), fun i j hi => absurd hi (Nat.not_lt_zero _), fun i i' j hi => absurd hi (Nat.not_lt_zero _)⟩
  clear hn3 x0 x1 x2 u0 u1 u2 HX4 HE3 HB23 HB33 HB24 HZ HB2 HB3
  go_loopg [20] L.length (fun gk iv wr => ∃ (k : Nat) (lv : Value) (us : List Value) (Bk : Nat → Nat → Prop), iv = .int .i64 (k : Int) ∧ gk = L.length - k ∧ k ≤ L.length ∧ Hid (CpJ 24 (n3 + 1) wr (L.map (sbT (fun n s => vr (n ++ suf) s))) lv us Bk k) ∧ Hid (wr.heap[w.heap.size + 1]? = some (.cells #[.string ⟨#[]⟩, .string ⟨#[]⟩, .slice none 0 0] 24 (0, 0))) ∧ Hid (wr.heap[n3]? = some (.cells #[.string n, .string ⟨#[]⟩, lv] 24 (0, 0))) ∧ Hid (Ext w wr) ∧ Hid (n3 + 1 ≤ wr.heap.size))
  case atStart => exact ⟨0, _, _, _, rfl, rfl, Nat.zero_le _, HJ0, HB34, HB44, HE4, HS4⟩
  case round =>
    clear HJ0 HB34 HB44 HE4 HS4
    obtain ⟨k, lv, us, Bk, rfl, rfl, hk, HJ, HB2, HB3, HE, HSZ⟩ := hrel
    obtain ⟨la, lc, hlv⟩ := own_shape HJ.out.own
    subst hlv
    by_cases hlt : k < L.length
    · obtain ⟨g, off, hga, _, hat⟩ := (HTL.out.ext HE.out).at_ (by omega)
      subst hga
      obtain ⟨xa, xc, q0, q1, q2, hkid⟩ := hat k hlt
      rw [← Nat.add_assoc] at q1 q2
      have z0 : (0 : Int) ≤ (k : Int) := by omega
      have z1 : (k : Int) < (L.length : Int) := by omega
      have z2 : decide ((k : Int) < (L.length : Int)) = true := decide_eq_true z1
      have z2' : decide (k < L.length) = true := decide_eq_true hlt
      have HIX := Lib.hid (fun W (hW : Ext wr W) => HIH.out (tg L k) (tg_mem L k hlt) _ S W (HW0.out.trans (HE.out.trans hW)) ⟨xa, xc, rfl, hkid.ext hW⟩ (fun j hj => Nat.lt_of_lt_of_le (HSS.out j hj) (Nat.le_trans HE.out.size hW.size)) (by have h1 := HSL.out; have h2 := size_mem (tg_mem L k hlt); omega) (HOKL.out _ (tg_mem L k hlt)))
      dsimp only [tV] at HIX
      obtain ⟨x, hx⟩ : ∃ x, tg L k = x := ⟨_, rfl⟩
      have hzx : tg (L.map (sbT (fun n s => vr (n ++ suf) s))) k = sbT (fun n s => vr (n ++ suf) s) x := by
        rw [← hx]
        unfold tg
        rw [List.getD_eq_getElem?_getD, List.getD_eq_getElem?_getD, List.getElem?_map, List.getElem?_eq_getElem hlt]
        rfl
      obtain ⟨z, hz⟩ : ∃ z, sbT (fun n s => vr (n ++ suf) s) x = z := ⟨_, rfl⟩
      rw [hx, hz] at HIX
      rw [hx] at q0 q1 q2
      rw [hz] at hzx
      have HZX := Lib.hid hzx
      have hQ := (Upd.refl (fun _ => False) wr).alloc (.cells #[.string x.name, .string x.sort, .slice xa x.kids.length xc] 24)
      have hB5 := alloc0 wr (.cells #[.string x.name, .string x.sort, .slice xa x.kids.length xc] 24)
      have b0 := cellRow hB5 0 (.string x.name) rfl
      have b1 := cellRow hB5 1 (.string x.sort) rfl
      have b2 := cellRow hB5 2 (.slice xa x.kids.length xc) rfl
      have hB3q := allocOld HB3.out (.cells #[.string x.name, .string x.sort, .slice xa x.kids.length xc] 24)
      have c2 := cellRow hB3q 2 (.slice la k lc) rfl
      have HBQ := Lib.hid hB3q
      have HQ := Lib.hid hQ
      have HB2Q := Lib.hid (allocOld HB2.out (.cells #[.string x.name, .string x.sort, .slice xa x.kids.length xc] 24))
      have HOQ := Lib.hid (HJ.out.own.alloc (.cells #[.string x.name, .string x.sort, .slice xa x.kids.length xc] 24))
      have HRN : Hid (¬ (Value.slice la k lc).ownBlock = some n3) := Lib.hid (fun e => by have h1 := (HJ.out.own.lt n3 e).1; omega)
      have HK : Hid (k ≤ 100000) := Lib.hid (by omega)
      obtain ⟨iT, hi, hz0, hz1, hz2⟩ := info_parts infoT
      clear hat hkid hx hQ hB5 hB3q hz hzx
      go_wp2_with fail
      generalize wr.alloc (.cells #[.string x.name, .string x.sort, .slice xa x.kids.length xc] 24) = wq at *
      have HWQ : Hid (Ext wq wq) := Lib.hid (Upd.refl _ _)
      have HSQ : Hid (n3 + 1 ≤ wq.heap.size) := Lib.hid (Nat.le_trans HSZ.out HQ.out.size)
      clear q0 q1 q2
      go_region_law (first
        | (refine step_append_at _ (.tmp 25) (.tmp 29) 22 rfl (n3 + 1) 24 iT (.agg #[.string ⟨#[]⟩, .string ⟨#[]⟩, .slice none 0 0]) 3 56 Tryz.underlying22 hi hz0 hz1 hz2 rfl (by decide) _ _ _ rfl HOW5.out _ 1 1 [Value.string z.name, .string z.sort, .slice ya z.kids.length yc] rfl rfl HNEW.out HONE.out HLM.out.1 HLM.out.2.1 HLM.out.2.2 ?_; intro v7 w7 hG7; obtain ⟨a7, c7, hv7⟩ := own_shape hG7.own; subst hv7; have hB7 := hG7.upd.heap (allocOld HB5.out (.cells #[.string z.name, .string z.sort, .slice ya z.kids.length yc] 24)) HRN.out; have f7 := fun i => frozenRow hB7 i; have c2 := cellRow hB7 2 (.slice la k lc) rfl; have HB7 := Lib.hid hB7; have HG7 := Lib.hid hG7; clear hG7 hB7)
        | (go_simp; refine (HIX.out wq.drew (HQ.out.trans HWQ.out.drew)).mono ?_; rintro e w5 ⟨r, Bx, rfl, hT5, hb5, hw5⟩; obtain ⟨ya, yc, hry⟩ := TlO.shape hT5; subst hry; have HW5 : Hid (Ext wq w5) := Lib.hid (((Upd.refl (fun _ => False) wq).drewN' 1).trans hw5); have HT5 := Lib.hid hT5; have HBX5 : Hid (∀ j, Bx j → wq.heap.size ≤ j ∧ j < w5.heap.size) := Lib.hid hb5; have HB5 := Lib.hid (HW5.out.heap HBQ.out (fun h => h)); have HOW5 : Hid ((w5.alloc (.cells #[.string z.name, .string z.sort, .slice ya z.kids.length yc] 24)).ownsRow (n3 + 1) 24 3 (.slice la k lc) k (tCells ((L.map (sbT (fun n s => vr (n ++ suf) s))).take k) us)) := Lib.hid ((own_kept HOQ.out HW5.out (fun _ _ h => h)).alloc _); have HNEW : Hid (∀ (j : Nat) (u : Value), [Value.string z.name, .string z.sort, .slice ya z.kids.length yc][j]? = some u → (w5.alloc (.cells #[.string z.name, .string z.sort, .slice ya z.kids.length yc] 24)).cell? ((⟨w5.heap.size, 0, none⟩ : Addr).add j) = some u) := Lib.hid (new3 w5 _ _ _ 24); have HONE : Hid (∀ u ∈ [Value.string z.name, .string z.sort, .slice ya z.kids.length yc], u.oneCell' = true) := Lib.hid (fun u hu => by simp at hu; rcases hu with h | h | h <;> (subst h; rfl)); have HLM : Hid (k + 1 ≤ maxLen ∧ (k + 1) * 56 ≤ 140737488355328 ∧ n3 + 1 ≤ (w5.alloc (.cells #[.string z.name, .string z.sort, .slice ya z.kids.length yc] 24)).heap.size) := Lib.hid ⟨by unfold maxLen; have := HK.out; omega, by have := HK.out; omega, by have h1 := HW5.out.size; have h2 := HSQ.out; simp; omega⟩; have c5 := HW5.out.cell c2 (fun h => h); have c6 := ((Upd.refl (fun _ => False) w5).alloc (.cells #[.string z.name, .string z.sort, .slice ya z.kids.length yc] 24)).cell c5 (fun h => h); clear hT5 hb5 hw5))
      all_goals
        go_wp2_with fail
        have HS8 := Lib.hid ((Upd.refl (fun j => j = n3) w7).setCell (p := ⟨n3, 2, none⟩) (.inl rfl) (.slice a7 (k + 1) c7))
        have HU8 : Hid (Upd (fun j => (Value.slice la k lc).ownBlock = some j ∨ j = n3) wq (w7.setCell ⟨n3, 2, none⟩ (.slice a7 (k + 1) c7))) := Lib.hid (((((HW5.out.alloc (.cells #[.string z.name, .string z.sort, .slice ya z.kids.length yc] 24)).mono (fun _ _ x => x.elim)).trans (HG7.out.upd.mono (fun _ _ e => .inl e)))).trans (HS8.out.mono (fun _ _ e => .inr e)))
        have HJ8 := Lib.hid (HJ.out.grow (by rw [List.length_map]; exact hlt) HZX.out (by omega) HSZ.out HQ.out HW5.out HT5.out HBX5.out ((Upd.refl (fun _ => False) w5).alloc (.cells #[.string z.name, .string z.sort, .slice ya z.kids.length yc] 24)) HG7.out HS8.out)
        have hs3 := HS3.out
        have HE8 : Hid (Ext w (w7.setCell ⟨n3, 2, none⟩ (.slice a7 (k + 1) c7))) := Lib.hid ((HE.out.trans HQ.out).trans' HU8.out (fun j hj e => by
          rcases e with e | e
          · have h1 := (HJ.out.own.lt j e).1; omega
          · omega))
        have HB28 := Lib.hid (HU8.out.heap HB2Q.out (fun e => by
          rcases e with e | e
          · have h1 := (HJ.out.own.lt _ e).1; omega
          · omega))
        have hb38 := setBlock HB7.out 2 (.slice a7 (k + 1) c7)
        have HB38 : Hid ((w7.setCell ⟨n3, 2, none⟩ (.slice a7 (k + 1) c7)).heap[n3]? = some (.cells #[.string n, .string ⟨#[]⟩, .slice a7 (k + 1) c7] 24 (0, 0))) := Lib.hid (by simpa using hb38)
        have HS9 : Hid (n3 + 1 ≤ (w7.setCell ⟨n3, 2, none⟩ (.slice a7 (k + 1) c7)).heap.size) := Lib.hid (Nat.le_trans HSQ.out HU8.out.size)
        clear hb38 c2 f7
        go_roundg (L.length - (k + 1))
        case measure => omega
        case rel => exact ⟨k + 1, _, _, _, by go_num, rfl, by omega, HJ8, HB28, HB38, HE8, HS9⟩
    · obtain rfl : k = L.length := by omega
      have z2 : decide ((L.length : Int) < (L.length : Int)) = false := decide_eq_false (by omega)
      have hfin := HJ.out
      have hll : (L.map (sbT (fun n s => vr (n ++ suf) s))).length = L.length := List.length_map ..
      rw [← hll] at hfin
      have hfin := hfin.fin
      have HFIN := Lib.hid hfin
      rw [hll] at HFIN
      have c0 := cellRow HB3.out 0 (.string n) rfl
      have c1 := cellRow HB3.out 1 (.string ⟨#[]⟩) rfl
      have c2 := cellRow HB3.out 2 (.slice la L.length lc) rfl
      have f2 := fun i => frozenRow HB2.out i
      have d0 := cellRow HB2.out 0 (.string ⟨#[]⟩) rfl
      have d1 := cellRow HB2.out 1 (.string ⟨#[]⟩) rfl
      have d2 := cellRow HB2.out 2 (.slice none 0 0) rfl
      clear hfin hll
      go_wp2_with fail
      have hr3 := st3_heap HB2.out (.string n) (.string ⟨#[]⟩) (.slice la L.length lc)
      have hu := st3_upd' wr (w.heap.size + 1) (.string n) (.string ⟨#[]⟩) (.slice la L.length lc)
      have e0 := cellRow hr3 0 _ rfl
      have e1 := cellRow hr3 1 _ rfl
      have e2 := cellRow hr3 2 _ rfl
      have hs3 := HS3.out
      refine bodyPost_ret (v := .agg #[.string n, .string ⟨#[]⟩, .slice la L.length lc]) (by simp [results, Tryz.results80, go_sem, e0, e1, e2]) rfl ⟨.slice la L.length lc, fun j => n3 + 1 ≤ j ∧ j < wr.heap.size, by simp [List.length_map, nul], HFIN.out.kept hu (fun j hj e => by have h1 := hj.1; omega), fun j hj => ⟨by have h1 := hj.1; omega, Nat.lt_of_lt_of_le hj.2 hu.size⟩, HE.out.trans' hu (fun j hj e => by omega)⟩

end Go.Proofs.YtlkcjmaiahnodaaGreatDoor

/- Rename. -/
namespace Go.Proofs.YtlkcjmaiahnodaaGreatDoor
open Go.RowKit Go.Hw Go
set_option linter.unusedVariables false
set_option linter.unusedSimpArgs false

open Tm Go.Sort Go.Proofs Go.ChangeMaps
def rnF (suf : By) (t : Tm) : Tm × Int := if wf nmB t = true then (if ((varsT t).all fun v => nmB (v.1 ++ suf)) = true then (sbT (fun n s => vr (n ++ suf) s) t, 0) else (.mk nul nul [], 9)) else (.mk nul nul [], 1)
set_option maxRecDepth 100000 in
set_option maxHeartbeats 2000000 in
theorem rename_x (t : Tm) (v : Value) (suf : By) (w : World) (htab : AscT w) (hR : TmR (fun k => k < w.heap.size) w t v) (hsz : t.size ≤ 100000) (hok : ∀ f ∈ vof t, f.1.size + suf.size ≤ 100000) :
    Calls Tryz.prog 20 #[v, .string suf] w fun e w' => ∃ r B, e = .returned (.tuple #[tV (rnF suf t).1 r, .int .i64 (rnF suf t).2]) ∧ TlO 24 w' B (rnF suf t).1.kids r ∧ (∀ j, B j → w.heap.size ≤ j ∧ j < w'.heap.size) ∧ Ext w w' := by
  have HR := Lib.hid hR
  obtain ⟨Z, hZZ⟩ : ∃ Z, rnF suf t = Z := ⟨_, rfl⟩
  rw [hZZ]
  have HZZ := Lib.hid hZZ
  clear hZZ
  obtain ⟨a, cap, rfl, hT⟩ := hR
  have HF := Lib.hid (fun W (hW : Ext w W) => uform_x t _ W (asc_ext htab hW) ((HR.out.ext hW).weaken (fun k hk => Nat.lt_of_lt_of_le hk hW.size)) (by omega))
  have HV := Lib.hid (fun W (hW : Ext w W) => tvars_x t _ W (asc_ext htab hW) ((HR.out.ext hW).weaken (fun k hk => Nat.lt_of_lt_of_le hk hW.size)) (by omega))
  have HTAB := Lib.hid htab
  have HSZ := Lib.hid hsz
  have HOK := Lib.hid hok
  dsimp only [tV] at HF HV ⊢
  have hZ := (((Upd.refl (fun _ => False) w).alloc (.cells #[.string t.name, .string t.sort, .slice a t.kids.length cap] 24)).alloc (.cells #[.string suf] 9)).alloc (.cells #[.string ⟨#[]⟩, .string ⟨#[]⟩, .slice none 0 0] 24)
  have hz2 : w.heap.size + 3 ≤ (((w.alloc (.cells #[.string t.name, .string t.sort, .slice a t.kids.length cap] 24)).alloc (.cells #[.string suf] 9)).alloc (.cells #[.string ⟨#[]⟩, .string ⟨#[]⟩, .slice none 0 0] 24)).heap.size := by simp
  have H2 := Lib.hid (allocOld (allocOld (alloc0 w (.cells #[.string t.name, .string t.sort, .slice a t.kids.length cap] 24)) (.cells #[.string suf] 9)) (.cells #[.string ⟨#[]⟩, .string ⟨#[]⟩, .slice none 0 0] 24))
  have H3 := Lib.hid (allocOld (alloc_at (w.alloc (.cells #[.string t.name, .string t.sort, .slice a t.kids.length cap] 24)) (.cells #[.string suf] 9) (n := w.heap.size + 1) (by simp)) (.cells #[.string ⟨#[]⟩, .string ⟨#[]⟩, .slice none 0 0] 24))
  have H4 := Lib.hid (alloc_at ((w.alloc (.cells #[.string t.name, .string t.sort, .slice a t.kids.length cap] 24)).alloc (.cells #[.string suf] 9)) (.cells #[.string ⟨#[]⟩, .string ⟨#[]⟩, .slice none 0 0] 24) (n := w.heap.size + 2) (by simp))
  have x0 := cellRow H2.out 0 (.string t.name) rfl
  have x1 := cellRow H2.out 1 (.string t.sort) rfl
  have x2 := cellRow H2.out 2 (.slice a t.kids.length cap) rfl
  have HZ := Lib.hid hZ
  clear hT htab hsz hok hZ
  go_enter Tryz.func20, Tryz.ntmps20
  go_wp2_with fail
  obtain ⟨rc, hrc⟩ : ∃ n, w.heap.size + 2 = n := ⟨_, rfl⟩
  obtain ⟨sb, hsb⟩ : ∃ n, w.heap.size + 1 = n := ⟨_, rfl⟩
  have HRC : Hid (w.heap.size + 2 = rc ∧ w.heap.size + 1 = sb) := Lib.hid ⟨hrc, hsb⟩
  rw [hrc] at H4
  rw [hsb] at H3
  try rw [show w.heap.size + 1 + 1 = rc from hrc]
  try rw [hrc]
  try rw [hsb]
  generalize (((w.alloc (.cells #[.string t.name, .string t.sort, .slice a t.kids.length cap] 24)).alloc (.cells #[.string suf] 9)).alloc (.cells #[.string ⟨#[]⟩, .string ⟨#[]⟩, .slice none 0 0] 24)) = wa at *
  clear hrc hsb
  refine (HF.out _ HZ.out).mono ?_
  rintro e w3 ⟨rfl, hw3⟩
  have HE3 := Lib.hid (HZ.out.trans hw3)
  have H23 := Lib.hid (hw3.heap H2.out (fun h => h))
  have H33 := Lib.hid (hw3.heap H3.out (fun h => h))
  have H43 := Lib.hid (hw3.heap H4.out (fun h => h))
  clear hw3 x0 x1 x2 H2 H3 H4 HZ HF hz2
  cases hwf : wf nmB t with
  | false =>
    obtain rfl : Z = (.mk nul nul [], 1) := by rw [← HZZ.out]; unfold rnF; rw [hwf]; rfl
    clear hwf
    have d0 := cellRow H43.out 0 (.string ⟨#[]⟩) rfl
    have d1 := cellRow H43.out 1 (.string ⟨#[]⟩) rfl
    have d2 := cellRow H43.out 2 (.slice none 0 0) rfl
    have f2 := fun i => frozenRow H43.out i
    go_wp2_with fail
    have hr3 := st3_heap H43.out (.string ⟨#[]⟩) (.string ⟨#[]⟩) (.slice none 0 0)
    have hu := st3_upd' w3 rc (.string ⟨#[]⟩) (.string ⟨#[]⟩) (.slice none 0 0)
    have e0 := cellRow hr3 0 _ rfl
    have e1 := cellRow hr3 1 _ rfl
    have e2 := cellRow hr3 2 _ rfl
    refine bodyPost_ret (v := .tuple #[.agg #[.string ⟨#[]⟩, .string ⟨#[]⟩, .slice none 0 0], .int .i64 1]) (by simp [results, Tryz.results20, go_sem, e0, e1, e2]) rfl (by first | exact ⟨.slice none 0 0, fun _ => False, rfl, TlO.nil _ _ _, fun j hj => hj.elim, HE3.out.trans' hu (fun j hj e => by have := HRC.out; omega)⟩ | exact ⟨.slice none 0 0, rfl, fun _ => False, TlO.nil _ _ _, fun j hj => hj.elim, HE3.out.trans' hu (fun j hj e => by have := HRC.out; omega)⟩)
  | true =>
    have HWF := Lib.hid hwf
    have hvf := varsF_wf hwf
    rw [hvf] at HV
    have hvl := varsT_len hwf
    have HVL := Lib.hid hvl
    clear hwf hvf hvl
    have x0 := cellRow H23.out 0 (.string t.name) rfl
    have x1 := cellRow H23.out 1 (.string t.sort) rfl
    have x2 := cellRow H23.out 2 (.slice a t.kids.length cap) rfl
    go_wp2_with fail
    refine (HV.out _ HE3.out).mono ?_
    rintro e w4 ⟨r1, rfl, hr1, hw4⟩
    have HE4 := Lib.hid (HE3.out.trans hw4)
    have H24 := Lib.hid (hw4.heap H23.out (fun h => h))
    have H34 := Lib.hid (hw4.heap H33.out (fun h => h))
    have H44 := Lib.hid (hw4.heap H43.out (fun h => h))
    have HF4 := Lib.hid hr1
    obtain ⟨p1, c1, hp1⟩ := FiR.shape hr1
    subst hp1
    clear hw4 x0 x1 x2 H23 H33 H43 HE3 HV hr1
    obtain ⟨VL, hVL⟩ : ∃ L, varsT t = L := ⟨_, rfl⟩
    have HVQ := Lib.hid hVL
    rw [hVL] at HF4 HVL ⊢
    have hlv : VL.length ≤ 100000 := Nat.le_trans HVL.out HSZ.out
    clear hVL
    go_wp2_with fail
    go_loopg [21] VL.length (fun gk iv wr => ∃ k : Nat, iv = .int .i64 (k : Int) ∧ gk = VL.length - k ∧ k ≤ VL.length ∧ Hid (Ext w4 wr) ∧ Hid (∀ v ∈ VL.take k, nmB (v.1 ++ suf) = true))
    case atStart => exact ⟨0, rfl, rfl, Nat.zero_le _, Lib.hid (Upd.refl _ _), Lib.hid (fun v hv => by simp at hv)⟩
    case round =>
      obtain ⟨k, rfl, rfl, hk, HE, HNM⟩ := hrel
      by_cases hlt : k < VL.length
      · obtain ⟨g, off, hga, hat⟩ := FiR.at_ (FiR.ext HF4.out HE.out) (by omega)
        subst hga
        obtain ⟨q0, q1⟩ := hat k hlt
        have htk := take_vg VL k hlt
        have hvm := vg_mem' hlt
        obtain ⟨v, hv⟩ : ∃ v, vg VL k = v := ⟨_, rfl⟩
        rw [hv] at q0 q1 htk hvm
        obtain ⟨nm, so⟩ := v
        simp only at q0 q1
        have z0 : (0 : Int) ≤ (k : Int) := by omega
        have z1 : (k : Int) < (VL.length : Int) := by omega
        have z2 : decide ((k : Int) < (VL.length : Int)) = true := decide_eq_true z1
        have z2' : decide (k < VL.length) = true := decide_eq_true hlt
        have HTK := Lib.hid htk
        have HVM := Lib.hid hvm
        have hB := alloc0 wr (.cells #[.string nm, .string so] 116)
        have e0 := cellRow hB 0 (.string nm) rfl
        have hX5 := HE.out.alloc (.cells #[.string nm, .string so] 116)
        have s0 := cellRow (hX5.heap H34.out (fun h => h)) 0 (.string suf) rfl
        have HX5 := Lib.hid hX5
        have hl : nm.size + suf.size ≤ 100000 := HOK.out (nm, so) (((varsT_mem HWF.out).2 (nm, so)).1 (by rw [HVQ.out]; exact hvm))
        have HIN := Lib.hid (isName_x (nm ++ suf) (wr.alloc (.cells #[.string nm, .string so] 116)) (asc_ext HTAB.out (HE4.out.trans hX5)))
        obtain ⟨bn, hbn⟩ : ∃ b, nmB (nm ++ suf) = b := ⟨_, rfl⟩
        rw [hbn] at HIN
        have HBN := Lib.hid hbn
        clear hat htk hvm hv hB hX5 hbn
        go_wp2_with fail
        refine HIN.out.mono ?_
        rintro e w6 ⟨rfl, hw6⟩
        have HE6 := Lib.hid (HX5.out.trans hw6)
        clear hw6 HIN q0 q1 e0 s0
        cases bn with
        | false =>
          have hall : (VL.all fun v => nmB (v.1 ++ suf)) = false := by
            rw [List.all_eq_false]
            exact ⟨(nm, so), HVM.out, by rw [HBN.out]; simp⟩
          obtain rfl : Z = (.mk nul nul [], 9) := by rw [← HZZ.out]; unfold rnF; rw [HWF.out, HVQ.out, hall]; rfl
          clear hall
          have HE7 := Lib.hid (HE4.out.trans HE6.out)
          have H47 := Lib.hid (HE6.out.heap H44.out (fun h => h))
          have d0 := cellRow H47.out 0 (.string ⟨#[]⟩) rfl
          have d1 := cellRow H47.out 1 (.string ⟨#[]⟩) rfl
          have d2 := cellRow H47.out 2 (.slice none 0 0) rfl
          have f2 := fun i => frozenRow H47.out i
          go_wp2_with fail
          have hr3 := st3_heap H47.out (.string ⟨#[]⟩) (.string ⟨#[]⟩) (.slice none 0 0)
          have hu := st3_upd' w6 rc (.string ⟨#[]⟩) (.string ⟨#[]⟩) (.slice none 0 0)
          have e0 := cellRow hr3 0 _ rfl
          have e1 := cellRow hr3 1 _ rfl
          have e2 := cellRow hr3 2 _ rfl
          refine bodyPost_ret (v := .tuple #[.agg #[.string ⟨#[]⟩, .string ⟨#[]⟩, .slice none 0 0], .int .i64 9]) (by simp [results, Tryz.results20, go_sem, e0, e1, e2]) rfl (by first | exact ⟨.slice none 0 0, fun _ => False, rfl, TlO.nil _ _ _, fun j hj => hj.elim, HE7.out.trans' hu (fun j hj e => by have := HRC.out; omega)⟩ | exact ⟨.slice none 0 0, rfl, fun _ => False, TlO.nil _ _ _, fun j hj => hj.elim, HE7.out.trans' hu (fun j hj e => by have := HRC.out; omega)⟩)
        | true =>
          have HNM2 : Hid (∀ v ∈ VL.take (k + 1), nmB (v.1 ++ suf) = true) := Lib.hid (fun v hv => by
            rw [HTK.out, List.mem_append, List.mem_singleton] at hv
            rcases hv with hv | hv
            · exact HNM.out v hv
            · rw [hv]; exact HBN.out)
          go_wp2_with fail
          go_roundg (VL.length - (k + 1))
          case measure => omega
          case rel => exact ⟨k + 1, by go_num, rfl, by omega, HE6, HNM2⟩
      · obtain rfl : k = VL.length := by omega
        have z2 : decide ((VL.length : Int) < (VL.length : Int)) = false := decide_eq_false (by omega)
        have hall : (VL.all fun v => nmB (v.1 ++ suf)) = true := by
          rw [List.all_eq_true]
          have := HNM.out
          rw [List.take_length] at this
          exact this
        obtain ⟨Q, hQ⟩ : ∃ Q, sbT (fun n s => vr (n ++ suf) s) t = Q := ⟨_, rfl⟩
        obtain rfl : Z = (Q, 0) := by rw [← HZZ.out, ← hQ]; unfold rnF; rw [HWF.out, HVQ.out, hall]; rfl
        have HE5 := Lib.hid (HE4.out.trans HE.out)
        have H25 := Lib.hid (HE.out.heap H24.out (fun h => h))
        have H35 := Lib.hid (HE.out.heap H34.out (fun h => h))
        have H45 := Lib.hid (HE.out.heap H44.out (fun h => h))
        have HRP := Lib.hid (rep81_x suf sb wr (Lib.hid (fun W hW => cellRow (hW.heap H35.out (fun h => h)) 0 (.string suf) rfl)) t _ (fun k => k < wr.heap.size) wr (Upd.refl _ _) ((HR.out.ext HE5.out).weaken (fun k hk => Nat.lt_of_lt_of_le hk HE5.out.size)) (fun k h => h) HSZ.out HOK.out)
        dsimp only [tV] at HRP
        rw [hQ] at HRP
        have x0 := cellRow H25.out 0 (.string t.name) rfl
        have x1 := cellRow H25.out 1 (.string t.sort) rfl
        have x2 := cellRow H25.out 2 (.slice a t.kids.length cap) rfl
        clear hall hQ
        go_wp2_with fail
        refine HRP.out.mono ?_
        rintro e w7 ⟨r7, B7, rfl, hT7, hb7, hw7⟩
        obtain ⟨ya, yc, hry⟩ := TlO.shape hT7
        subst hry
        have HT7 := Lib.hid hT7
        have HB7 := Lib.hid hb7
        have HE7 := Lib.hid (HE5.out.trans hw7)
        have H47 := Lib.hid (hw7.heap H45.out (fun h => h))
        have HW5 := Lib.hid HE5.out.size
        have HRS : Hid (rc < wr.heap.size) := Lib.hid (Array.getElem?_eq_some_iff.1 H45.out).1
        clear hT7 hb7 hw7 HRP x0 x1 x2
        have d0 := cellRow H47.out 0 (.string ⟨#[]⟩) rfl
        have d1 := cellRow H47.out 1 (.string ⟨#[]⟩) rfl
        have d2 := cellRow H47.out 2 (.slice none 0 0) rfl
        have f2 := fun i => frozenRow H47.out i
        go_wp2_with fail
        have hr3 := st3_heap H47.out (.string Q.name) (.string Q.sort) (.slice ya Q.kids.length yc)
        have hu := st3_upd' w7 rc (.string Q.name) (.string Q.sort) (.slice ya Q.kids.length yc)
        have e0 := cellRow hr3 0 _ rfl
        have e1 := cellRow hr3 1 _ rfl
        have e2 := cellRow hr3 2 _ rfl
        have h1 := HRS.out
        have h2 := HW5.out
        refine bodyPost_ret (v := .tuple #[.agg #[.string Q.name, .string Q.sort, .slice ya Q.kids.length yc], .int .i64 0]) (by simp [results, Tryz.results20, go_sem, e0, e1, e2]) rfl (by first | exact ⟨.slice ya Q.kids.length yc, B7, rfl, HT7.out.kept hu (fun j hj e => by have h3 := (HB7.out j hj).1; omega), fun j hj => ⟨by have h3 := (HB7.out j hj).1; omega, Nat.lt_of_lt_of_le (HB7.out j hj).2 hu.size⟩, HE7.out.trans' hu (fun j hj e => by have := HRC.out; omega)⟩ | exact ⟨.slice ya Q.kids.length yc, rfl, B7, HT7.out.kept hu (fun j hj e => by have h3 := (HB7.out j hj).1; omega), fun j hj => ⟨by have h3 := (HB7.out j hj).1; omega, Nat.lt_of_lt_of_le (HB7.out j hj).2 hu.size⟩, HE7.out.trans' hu (fun j hj e => by have := HRC.out; omega)⟩)

end Go.Proofs.YtlkcjmaiahnodaaGreatDoor
