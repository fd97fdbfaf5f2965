/- The texts N18 N20 N21 N22 N23 N24 N25, one behind the other. -/
import Derived.Test.YtlkcjmaiahnodaaGreatDoorYAL
import Derived.Test.YtlkcjmaiahnodaaGreatDoorYAE
import Derived.Deep.DeepCutAuto
import Derived.Test.YtlkcjmaiahnodaaGreatDoorYAI
/- The examples. -/
namespace Go.Proofs.YtlkcjmaiahnodaaGreatDoor
open Go.RowKit Go.Hw Go
set_option linter.unusedVariables false
set_option linter.unusedSimpArgs false

open Tm Go.Sort Go.Proofs Go.ChangeMaps
structure ExR where
  R : Nat → World → Prop
  st : ∀ b W W', R b W → Ext W W' → R b W'
def annG (nm : By) : PF.Ann (Nat × Option Addr × Nat) := ⟨fun x => .agg #[.string ⟨#[103]⟩, .string ⟨#[]⟩, .slice (some ⟨x.1, 0, none⟩) 1 1], fun x W => W.heap[x.1]? = some (.cells #[.string nm, .string ⟨#[115]⟩, .slice none 0 0] 24 (0, 0)), fun x W W' h hE => hE.heap h (fun h => h), fun _ => none, fun _ _ _ _ e => by cases e⟩
def annF (E : ExR) : PF.Ann (Nat × Option Addr × Nat) := ⟨fun x => .agg #[.string ⟨#[102]⟩, .string ⟨#[]⟩, .slice (some ⟨x.1, 0, none⟩) 2 2], fun x W => E.R x.1 W, fun x W W' h hE => E.st _ _ _ h hE, fun _ => none, fun _ _ _ _ e => by cases e⟩
theorem bn_ext {W W' : World} {v : Value} {L : List Bd} (h : BnR (fun k => k < W.heap.size) (fun k => k < W.heap.size) W v L) (hE : Ext W W') : BnR (fun k => k < W'.heap.size) (fun k => k < W'.heap.size) W' v L := (h.ext hE).weaken (fun k hk => Nat.lt_of_lt_of_le hk hE.size) (fun k hk => Nat.lt_of_lt_of_le hk hE.size)
def annU : PF.Ann (Nat × Option Addr × Nat) := ⟨fun x => .tuple #[.slice x.2.1 2 x.2.2, .int .i64 0], fun x W => BnR (fun k => k < W.heap.size) (fun k => k < W.heap.size) W (.slice x.2.1 2 x.2.2) exoL, fun x W W' h hE => bn_ext h hE, fun _ => none, fun _ _ _ _ e => by cases e⟩
def annN : PF.Ann (Nat × Option Addr × Nat) := ⟨fun _ => .tuple #[.slice none 0 0, .int .i64 12], fun _ _ => True, fun _ _ _ _ _ => trivial, fun _ => none, fun _ _ _ _ e => by cases e⟩
def annB : PF.Ann (Nat × Option Addr × Nat) := ⟨fun x => .slice (some ⟨x.1, 0, none⟩) 2 2, fun x W => BnR (fun k => k < W.heap.size) (fun k => k < W.heap.size) W (.slice (some ⟨x.1, 0, none⟩) 2 2) exoL, fun x W W' h hE => bn_ext h hE, fun _ => none, fun _ _ _ _ e => by cases e⟩
def annT : PF.Ann (Nat × Option Addr × Nat) := ⟨fun _ => .bool true, fun _ _ => True, fun _ _ _ _ _ => trivial, fun _ => none, fun _ _ _ _ e => by cases e⟩
def exR0 : ExR := ⟨fun b W => W.heap[b]? = some (.cells #[.string ⟨#[120]⟩, .string ⟨#[115]⟩, .slice none 0 0, .string ⟨#[120]⟩, .string ⟨#[115]⟩, .slice none 0 0] 24 (0, 0)), fun b W W' h hE => hE.heap h (fun h => h)⟩
def exR1 : ExR := ⟨fun b W => ∃ c, W.heap[b]? = some (.cells #[.string ⟨#[120]⟩, .string ⟨#[115]⟩, .slice none 0 0, .string ⟨#[103]⟩, .string ⟨#[]⟩, .slice (some ⟨c, 0, none⟩) 1 1] 24 (0, 0)) ∧ W.heap[c]? = some (.cells #[.string ⟨#[121]⟩, .string ⟨#[115]⟩, .slice none 0 0] 24 (0, 0)), fun b W W' ⟨c, h1, h2⟩ hE => ⟨c, hE.heap h1 (fun h => h), hE.heap h2 (fun h => h)⟩⟩
def exR2 : ExR := ⟨fun b W => ∃ c, W.heap[b]? = some (.cells #[.string ⟨#[103]⟩, .string ⟨#[]⟩, .slice (some ⟨c, 0, none⟩) 1 1, .string ⟨#[120]⟩, .string ⟨#[115]⟩, .slice none 0 0] 24 (0, 0)) ∧ W.heap[c]? = some (.cells #[.string ⟨#[122]⟩, .string ⟨#[115]⟩, .slice none 0 0] 24 (0, 0)), fun b W W' ⟨c, h1, h2⟩ hE => ⟨c, hE.heap h1 (fun h => h), hE.heap h2 (fun h => h)⟩⟩
def exR3 : ExR := ⟨fun b W => ∃ c, W.heap[b]? = some (.cells #[.string ⟨#[121]⟩, .string ⟨#[115]⟩, .slice none 0 0, .string ⟨#[103]⟩, .string ⟨#[]⟩, .slice (some ⟨c, 0, none⟩) 1 1] 24 (0, 0)) ∧ W.heap[c]? = some (.cells #[.string ⟨#[121]⟩, .string ⟨#[115]⟩, .slice none 0 0] 24 (0, 0)), fun b W W' ⟨c, h1, h2⟩ hE => ⟨c, hE.heap h1 (fun h => h), hE.heap h2 (fun h => h)⟩⟩
theorem exo_bn {W : World} {b : Nat} (h : W.heap[b]? = some (.cells #[.string ⟨#[121]⟩, .string ⟨#[115]⟩, .slice none 0 0] 24 (0, 0))) : BnR (fun k => k < (W.alloc (.cells #[.string ⟨#[120]⟩, .string ⟨#[115]⟩, .string ⟨#[103]⟩, .string ⟨#[]⟩, .slice (some ⟨b, 0, none⟩) 1 1, .string ⟨#[122]⟩, .string ⟨#[115]⟩, .string ⟨#[121]⟩, .string ⟨#[115]⟩, .slice none 0 0] 93)).heap.size) (fun k => k < (W.alloc (.cells #[.string ⟨#[120]⟩, .string ⟨#[115]⟩, .string ⟨#[103]⟩, .string ⟨#[]⟩, .slice (some ⟨b, 0, none⟩) 1 1, .string ⟨#[122]⟩, .string ⟨#[115]⟩, .string ⟨#[121]⟩, .string ⟨#[115]⟩, .slice none 0 0] 93)).heap.size) (W.alloc (.cells #[.string ⟨#[120]⟩, .string ⟨#[115]⟩, .string ⟨#[103]⟩, .string ⟨#[]⟩, .slice (some ⟨b, 0, none⟩) 1 1, .string ⟨#[122]⟩, .string ⟨#[115]⟩, .string ⟨#[121]⟩, .string ⟨#[115]⟩, .slice none 0 0] 93)) (.slice (some ⟨W.heap.size, 0, none⟩) 2 2) exoL := by
  have h0 := alloc0 W (.cells #[.string ⟨#[120]⟩, .string ⟨#[115]⟩, .string ⟨#[103]⟩, .string ⟨#[]⟩, .slice (some ⟨b, 0, none⟩) 1 1, .string ⟨#[122]⟩, .string ⟨#[115]⟩, .string ⟨#[121]⟩, .string ⟨#[115]⟩, .slice none 0 0] 93)
  have hE := (Upd.refl (fun _ => False) W).alloc (.cells #[.string ⟨#[120]⟩, .string ⟨#[115]⟩, .string ⟨#[103]⟩, .string ⟨#[]⟩, .slice (some ⟨b, 0, none⟩) 1 1, .string ⟨#[122]⟩, .string ⟨#[115]⟩, .string ⟨#[121]⟩, .string ⟨#[115]⟩, .slice none 0 0] 93)
  have hb := hE.heap h (fun h => h)
  refine ⟨[.slice (some ⟨b, 0, none⟩) 1 1, .slice none 0 0], rfl, SlR.mk' rfl rfl (Nat.le_refl _) (fun _ => (Array.getElem?_eq_some_iff.1 h0).1) (fun j hj => ?_), fun i hi => ?_⟩
  · have hj3 : j < 10 := hj
    rw [Nat.zero_add, cell_of_row _ _ j _ _ _ h0]
    rcases (by omega : j = 0 ∨ j = 1 ∨ j = 2 ∨ j = 3 ∨ j = 4 ∨ j = 5 ∨ j = 6 ∨ j = 7 ∨ j = 8 ∨ j = 9) with rfl | rfl | rfl | rfl | rfl | rfl | rfl | rfl | rfl | rfl <;> rfl
  · have hi2 : i < 2 := hi
    rcases (by omega : i = 0 ∨ i = 1) with rfl | rfl
    · exact one_tl (a := exy) hb (Array.getElem?_eq_some_iff.1 hb).1 (TlR.nil _ _)
    · exact TlR.nil _ _
set_option maxRecDepth 100000 in
set_option maxHeartbeats 2000000 in
theorem awake_x (w : World) (htab : AscT w) : Calls Tryz.prog 13 #[] w fun e w' => e = .returned (.bool true) ∧ Ext w w' := by
  have HTAB := Lib.hid htab
  have HZ : Hid (Ext w (((w.alloc (.cells #[.string ⟨#[120]⟩, .string ⟨#[115]⟩, .slice none 0 0] 24)).alloc (.cells #[.string ⟨#[121]⟩, .string ⟨#[115]⟩, .slice none 0 0] 24)).alloc (.cells #[.string ⟨#[122]⟩, .string ⟨#[115]⟩, .slice none 0 0] 24))) := Lib.hid ((((Upd.refl (fun _ => False) w).alloc _).alloc _).alloc _)
  have hbx : (((w.alloc (.cells #[.string ⟨#[120]⟩, .string ⟨#[115]⟩, .slice none 0 0] 24)).alloc (.cells #[.string ⟨#[121]⟩, .string ⟨#[115]⟩, .slice none 0 0] 24)).alloc (.cells #[.string ⟨#[122]⟩, .string ⟨#[115]⟩, .slice none 0 0] 24)).heap[w.heap.size]? = some (.cells #[.string ⟨#[120]⟩, .string ⟨#[115]⟩, .slice none 0 0] 24 (0, 0)) := allocOld (allocOld (alloc0 w (.cells #[.string ⟨#[120]⟩, .string ⟨#[115]⟩, .slice none 0 0] 24)) (.cells #[.string ⟨#[121]⟩, .string ⟨#[115]⟩, .slice none 0 0] 24)) (.cells #[.string ⟨#[122]⟩, .string ⟨#[115]⟩, .slice none 0 0] 24)
  have hby : (((w.alloc (.cells #[.string ⟨#[120]⟩, .string ⟨#[115]⟩, .slice none 0 0] 24)).alloc (.cells #[.string ⟨#[121]⟩, .string ⟨#[115]⟩, .slice none 0 0] 24)).alloc (.cells #[.string ⟨#[122]⟩, .string ⟨#[115]⟩, .slice none 0 0] 24)).heap[w.heap.size + 1]? = some (.cells #[.string ⟨#[121]⟩, .string ⟨#[115]⟩, .slice none 0 0] 24 (0, 0)) := allocOld (alloc_at (w.alloc (.cells #[.string ⟨#[120]⟩, .string ⟨#[115]⟩, .slice none 0 0] 24)) (.cells #[.string ⟨#[121]⟩, .string ⟨#[115]⟩, .slice none 0 0] 24) (n := w.heap.size + 1) (by simp)) (.cells #[.string ⟨#[122]⟩, .string ⟨#[115]⟩, .slice none 0 0] 24)
  have hbz : (((w.alloc (.cells #[.string ⟨#[120]⟩, .string ⟨#[115]⟩, .slice none 0 0] 24)).alloc (.cells #[.string ⟨#[121]⟩, .string ⟨#[115]⟩, .slice none 0 0] 24)).alloc (.cells #[.string ⟨#[122]⟩, .string ⟨#[115]⟩, .slice none 0 0] 24)).heap[w.heap.size + 2]? = some (.cells #[.string ⟨#[122]⟩, .string ⟨#[115]⟩, .slice none 0 0] 24 (0, 0)) := alloc_at ((w.alloc (.cells #[.string ⟨#[120]⟩, .string ⟨#[115]⟩, .slice none 0 0] 24)).alloc (.cells #[.string ⟨#[121]⟩, .string ⟨#[115]⟩, .slice none 0 0] 24)) (.cells #[.string ⟨#[122]⟩, .string ⟨#[115]⟩, .slice none 0 0] 24) (n := w.heap.size + 2) (by simp)
  clear htab
  go_enter Tryz.func13, Tryz.ntmps13
  go_wp2_with fail
  have hz2 : w.heap.size + 1 + 1 = w.heap.size + 2 := rfl
  try rw [hz2]
  generalize hw3 : (((w.alloc (.cells #[.string ⟨#[120]⟩, .string ⟨#[115]⟩, .slice none 0 0] 24)).alloc (.cells #[.string ⟨#[121]⟩, .string ⟨#[115]⟩, .slice none 0 0] 24)).alloc (.cells #[.string ⟨#[122]⟩, .string ⟨#[115]⟩, .slice none 0 0] 24)) = w3 at *
  clear hw3 hz2
  have HBX := Lib.hid hbx
  have HBY := Lib.hid hby
  have HBZ := Lib.hid hbz
  clear hbx hby hbz
  have HE3 : Hid (Ext w3 w3) := Lib.hid (Upd.refl _ _)
  have x0 := fun x : XW w3 => ((HE3.out.trans x.ext)).cell (cellRow HBX.out 0 (.string ⟨#[120]⟩) rfl) (fun h => h)
  have x1 := fun x : XW w3 => ((HE3.out.trans x.ext)).cell (cellRow HBX.out 1 (.string ⟨#[115]⟩) rfl) (fun h => h)
  have x2 := fun x : XW w3 => ((HE3.out.trans x.ext)).cell (cellRow HBX.out 2 (.slice none 0 0) rfl) (fun h => h)
  have y0 := fun x : XW w3 => ((HE3.out.trans x.ext)).cell (cellRow HBY.out 0 (.string ⟨#[121]⟩) rfl) (fun h => h)
  have y1 := fun x : XW w3 => ((HE3.out.trans x.ext)).cell (cellRow HBY.out 1 (.string ⟨#[115]⟩) rfl) (fun h => h)
  have y2 := fun x : XW w3 => ((HE3.out.trans x.ext)).cell (cellRow HBY.out 2 (.slice none 0 0) rfl) (fun h => h)
  have z0 := fun x : XW w3 => ((HE3.out.trans x.ext)).cell (cellRow HBZ.out 0 (.string ⟨#[122]⟩) rfl) (fun h => h)
  have z1 := fun x : XW w3 => ((HE3.out.trans x.ext)).cell (cellRow HBZ.out 1 (.string ⟨#[115]⟩) rfl) (fun h => h)
  have z2 := fun x : XW w3 => ((HE3.out.trans x.ext)).cell (cellRow HBZ.out 2 (.slice none 0 0) rfl) (fun h => h)
  go_cut [6, 7] (fun r6 r7 ww => ∃ ra rc, r6 = .slice ra 2 rc ∧ r7 = .int .i64 0 ∧ Hid (Ext w3 ww) ∧ Hid (BnR (fun k => k < ww.heap.size) (fun k => k < ww.heap.size) ww (.slice ra 2 rc) exoL))
  case first =>
    refine PF.wp_region_parF (α := Nat × Option Addr × Nat) 18 [] 17 [] [[], [], [], [], [2, 3], [0, 1, 2, 3, 4], [], [], [], [0, 1, 2, 3, 4, 5, 7, 8], [], [0, 1, 2, 3, 4, 5, 6, 7, 8, 9, 10], [0, 1, 2, 3, 4, 5, 6, 7, 8, 9, 10, 11], [0, 1, 2, 3, 4, 5, 6, 7, 8, 9, 10, 11, 12], [0, 1, 2, 3, 4, 5, 6, 7, 8, 9, 10, 11, 12, 13], [0, 1, 2, 3, 4, 5, 6, 7, 8, 9, 10, 11, 12, 13], [0, 1, 2, 3, 4, 5, 6, 7, 8, 9, 10, 11, 12, 13, 14], [0, 1, 2, 3, 4, 5, 6, 7, 8, 9, 10, 11, 12, 13, 14, 15, 16]] [none, none, none, none, some (annG ⟨#[121]⟩), some (annF exR1), none, none, none, some (annG ⟨#[122]⟩), none, some (annF exR2), some (annU), none, none, none, none, none] [false, false, false, false, true, true, false, false, false, true, false, true, true, false, false, false, false, false] (by kernel_rfl) (by kernel_rfl) rfl (fun _ _ d _ _ h => by cases d <;> exact h) ?_
    simp only [List.take_succ_cons, List.take_zero, pickO, List.getElem?_cons_zero, List.getElem?_cons_succ]
    refine PF.can_pure0 rfl (fun K hK => ?_); go_simp; refine hK _ ?_; clear hK K
    refine PF.can_pure0 rfl (fun K hK => ?_); go_simp; refine hK _ ?_; clear hK K
    refine PF.can_pure0 rfl (fun K hK => ?_); go_simp; refine hK _ ?_; clear hK K
    refine PF.can_pure0 rfl (fun K hK => ?_); go_simp; refine hK _ ?_; clear hK K
    refine PF.can_mem _ rfl (by go_simp) (fun W hW hG K hK => ?_) (fun K z4 hK => ?_)
    · go_simp
      refine (ex58_x _ _ _ _ _ W).mono ?_
      rintro e w' ⟨b, rfl, hb, hsz, hE⟩
      exact hK (b, none, 0) _ hE hb (fun k e => by cases e)
    refine hK _ ?_; clear hK K
    dsimp only [annG, annF, annU, annN, annB, annT]
    refine PF.can_mem _ rfl (by go_simp) (fun W hW hG K hK => ?_) (fun K z5 hK => ?_)
    · have g := hG _ (List.mem_append_right _ (List.mem_singleton.2 rfl)) (by show (4 : Nat) ∈ _; decide)
      go_simp
      refine (ex59_x _ _ _ _ _ _ _ _ _ _ W).mono ?_
      rintro e w' ⟨b, rfl, hb, hsz, hE⟩
      exact hK (b, none, 0) _ hE ⟨z4.1, hb, hE.heap g (fun h => h)⟩ (fun k e => by cases e)
    refine hK _ ?_; clear hK K
    dsimp only [annG, annF, annU, annN, annB, annT]
    refine PF.can_pure0 rfl (fun K hK => ?_); go_simp; refine hK _ ?_; clear hK K
    refine PF.can_pure0 rfl (fun K hK => ?_); go_simp; refine hK _ ?_; clear hK K
    refine PF.can_pure0 rfl (fun K hK => ?_); go_simp; refine hK _ ?_; clear hK K
    refine PF.can_mem _ rfl (by go_simp) (fun W hW hG K hK => ?_) (fun K z9 hK => ?_)
    · go_simp
      refine (ex58_x _ _ _ _ _ W).mono ?_
      rintro e w' ⟨b, rfl, hb, hsz, hE⟩
      exact hK (b, none, 0) _ hE hb (fun k e => by cases e)
    refine hK _ ?_; clear hK K
    dsimp only [annG, annF, annU, annN, annB, annT]
    refine PF.can_pure0 rfl (fun K hK => ?_); go_simp; refine hK _ ?_; clear hK K
    refine PF.can_mem _ rfl (by go_simp) (fun W hW hG K hK => ?_) (fun K z11 hK => ?_)
    · have g := hG _ (List.mem_append_right _ (List.mem_singleton.2 rfl)) (by show (9 : Nat) ∈ _; decide)
      go_simp
      refine (ex59_x _ _ _ _ _ _ _ _ _ _ W).mono ?_
      rintro e w' ⟨b, rfl, hb, hsz, hE⟩
      exact hK (b, none, 0) _ hE ⟨z9.1, hb, hE.heap g (fun h => h)⟩ (fun k e => by cases e)
    refine hK _ ?_; clear hK K
    dsimp only [annG, annF, annU, annN, annB, annT]
    refine PF.can_mem _ rfl (by go_simp) (fun W hW hG K hK => ?_) (fun K z12 hK => ?_)
    · have g5 := hG _ (List.mem_append_left _ (List.mem_append_left _ (List.mem_append_right _ (List.mem_singleton.2 rfl)))) (by show (5 : Nat) ∈ _; decide)
      have g11 := hG _ (List.mem_append_right _ (List.mem_singleton.2 rfl)) (by show (11 : Nat) ∈ _; decide)
      obtain ⟨b3, h1, h3⟩ := g5
      obtain ⟨b4, h2, h4⟩ := g11
      go_simp
      refine (exo_x W (asc_ext HTAB.out (HZ.out.trans hW)) z5.1 z11.1 b3 b4 h1 h2 h3 h4).mono ?_
      rintro e w' ⟨ra, rc, rfl, hbn, hE⟩
      exact hK (0, ra, rc) _ hE hbn (fun k e => by cases e)
    refine hK _ ?_; clear hK K
    dsimp only [annG, annF, annU, annN, annB, annT]
    refine PF.can_pure0 rfl (fun K hK => ?_); go_simp; refine hK _ ?_; clear hK K
    refine PF.can_pure0 rfl (fun K hK => ?_); go_simp; refine hK _ ?_; clear hK K
    refine PF.can_pure0 rfl (fun K hK => ?_); go_simp; refine hK _ ?_; clear hK K
    refine PF.can_pure0 rfl (fun K hK => ?_); go_simp; refine hK _ ?_; clear hK K
    refine PF.can_pure0 rfl (fun K hK => ?_); go_simp; refine hK _ ?_; clear hK K
    unfold PF.Can
    intro w8 hW hG hAp
    have gz := hG _ (List.mem_append_right _ (List.mem_singleton.2 rfl))
    clear hG hAp
    dsimp only [annG, annF, annU, annN, annB, annT] at gz
    simp only [wpMix]
    go_wp2_with fail
    go_meet
    case rel => exact ⟨_, _, rfl, rfl, Lib.hid hW, Lib.hid gz⟩
  case rest =>
    obtain ⟨ra, rc, rfl, rfl, HE4, HB4⟩ := hcut
    generalize wc = w4 at *
    clear x0 x1 x2 y0 y1 y2 z0 z1 z2
    have x0 := fun x : XW w4 => ((HE4.out.trans x.ext)).cell (cellRow HBX.out 0 (.string ⟨#[120]⟩) rfl) (fun h => h)
    have x1 := fun x : XW w4 => ((HE4.out.trans x.ext)).cell (cellRow HBX.out 1 (.string ⟨#[115]⟩) rfl) (fun h => h)
    have x2 := fun x : XW w4 => ((HE4.out.trans x.ext)).cell (cellRow HBX.out 2 (.slice none 0 0) rfl) (fun h => h)
    have y0 := fun x : XW w4 => ((HE4.out.trans x.ext)).cell (cellRow HBY.out 0 (.string ⟨#[121]⟩) rfl) (fun h => h)
    have y1 := fun x : XW w4 => ((HE4.out.trans x.ext)).cell (cellRow HBY.out 1 (.string ⟨#[115]⟩) rfl) (fun h => h)
    have y2 := fun x : XW w4 => ((HE4.out.trans x.ext)).cell (cellRow HBY.out 2 (.slice none 0 0) rfl) (fun h => h)
    have z0 := fun x : XW w4 => ((HE4.out.trans x.ext)).cell (cellRow HBZ.out 0 (.string ⟨#[122]⟩) rfl) (fun h => h)
    have z1 := fun x : XW w4 => ((HE4.out.trans x.ext)).cell (cellRow HBZ.out 1 (.string ⟨#[115]⟩) rfl) (fun h => h)
    have z2 := fun x : XW w4 => ((HE4.out.trans x.ext)).cell (cellRow HBZ.out 2 (.slice none 0 0) rfl) (fun h => h)
    go_upto_region 5 with fail
    go_cut [8, 9] (fun r8 r9 ww => r9 = .int .i64 12 ∧ Hid (Ext w4 ww))
    case first =>
      refine PF.wp_region_parF (α := Nat × Option Addr × Nat) 16 [] 15 [] [[], [], [], [0, 1, 2], [], [], [], [], [0, 1, 2, 3, 6, 7], [0, 1, 2, 3, 4, 5, 6, 7, 8], [0, 1, 2, 3, 4, 5, 6, 7, 8, 9], [0, 1, 2, 3, 4, 5, 6, 7, 8, 9, 10], [0, 1, 2, 3, 4, 5, 6, 7, 8, 9, 10, 11], [0, 1, 2, 3, 4, 5, 6, 7, 8, 9, 10, 11], [0, 1, 2, 3, 4, 5, 6, 7, 8, 9, 10, 11, 12], [0, 1, 2, 3, 4, 5, 6, 7, 8, 9, 10, 11, 12, 13, 14]] [none, none, none, some (annF exR0), none, none, none, none, some (annG ⟨#[121]⟩), some (annF exR3), some (annN), none, none, none, none, none] [false, false, false, true, false, false, false, false, true, true, true, false, false, false, false, false] (by kernel_rfl) (by kernel_rfl) rfl (fun _ _ d _ _ h => by cases d <;> exact h) ?_
      simp only [List.take_succ_cons, List.take_zero, pickO, List.getElem?_cons_zero, List.getElem?_cons_succ]
      refine PF.can_pure0 rfl (fun K hK => ?_); go_simp; refine hK _ ?_; clear hK K
      refine PF.can_pure0 rfl (fun K hK => ?_); go_simp; refine hK _ ?_; clear hK K
      refine PF.can_pure0 rfl (fun K hK => ?_); go_simp; refine hK _ ?_; clear hK K
      refine PF.can_mem _ rfl (by go_simp) (fun W hW hG K hK => ?_) (fun K z3 hK => ?_)
      · go_simp
        refine (ex59_x _ _ _ _ _ _ _ _ _ _ W).mono ?_
        rintro e w' ⟨b, rfl, hb, hsz, hE⟩
        exact hK (b, none, 0) _ hE hb (fun k e => by cases e)
      refine hK _ ?_; clear hK K
      dsimp only [annG, annF, annU, annN, annB, annT]
      refine PF.can_pure0 rfl (fun K hK => ?_); go_simp; refine hK _ ?_; clear hK K
      refine PF.can_pure0 rfl (fun K hK => ?_); go_simp; refine hK _ ?_; clear hK K
      refine PF.can_pure0 rfl (fun K hK => ?_); go_simp; refine hK _ ?_; clear hK K
      refine PF.can_pure0 rfl (fun K hK => ?_); go_simp; refine hK _ ?_; clear hK K
      refine PF.can_mem _ rfl (by go_simp) (fun W hW hG K hK => ?_) (fun K z8 hK => ?_)
      · go_simp
        refine (ex58_x _ _ _ _ _ W).mono ?_
        rintro e w' ⟨b, rfl, hb, hsz, hE⟩
        exact hK (b, none, 0) _ hE hb (fun k e => by cases e)
      refine hK _ ?_; clear hK K
      dsimp only [annG, annF, annU, annN, annB, annT]
      refine PF.can_mem _ rfl (by go_simp) (fun W hW hG K hK => ?_) (fun K z9 hK => ?_)
      · have g := hG _ (List.mem_append_right _ (List.mem_singleton.2 rfl)) (by show (8 : Nat) ∈ _; decide)
        go_simp
        refine (ex59_x _ _ _ _ _ _ _ _ _ _ W).mono ?_
        rintro e w' ⟨b, rfl, hb, hsz, hE⟩
        exact hK (b, none, 0) _ hE ⟨z8.1, hb, hE.heap g (fun h => h)⟩ (fun k e => by cases e)
      refine hK _ ?_; clear hK K
      dsimp only [annG, annF, annU, annN, annB, annT]
      refine PF.can_mem _ rfl (by go_simp) (fun W hW hG K hK => ?_) (fun K z10 hK => ?_)
      · have g3 := hG _ (List.mem_append_left _ (List.mem_append_left _ (List.mem_append_right _ (List.mem_singleton.2 rfl)))) (by show (3 : Nat) ∈ _; decide)
        have g9 := hG _ (List.mem_append_right _ (List.mem_singleton.2 rfl)) (by show (9 : Nat) ∈ _; decide)
        obtain ⟨b3, h2, h3⟩ := g9
        go_simp
        refine (ext_x W (asc_ext HTAB.out (HZ.out.trans (HE4.out.trans hW))) z3.1 z9.1 b3 g3 h2 h3).mono ?_
        rintro e w' ⟨rfl, hE⟩
        exact hK (0, none, 0) _ hE trivial (fun k e => by cases e)
      refine hK _ ?_; clear hK K
      dsimp only [annG, annF, annU, annN, annB, annT]
      refine PF.can_pure0 rfl (fun K hK => ?_); go_simp; refine hK _ ?_; clear hK K
      refine PF.can_pure0 rfl (fun K hK => ?_); go_simp; refine hK _ ?_; clear hK K
      refine PF.can_pure0 rfl (fun K hK => ?_); go_simp; refine hK _ ?_; clear hK K
      refine PF.can_pure0 rfl (fun K hK => ?_); go_simp; refine hK _ ?_; clear hK K
      refine PF.can_pure0 rfl (fun K hK => ?_); go_simp; refine hK _ ?_; clear hK K
      unfold PF.Can
      intro w8 hW hG hAp
      have gz := hG _ (List.mem_append_right _ (List.mem_singleton.2 rfl))
      clear hG hAp
      dsimp only [annG, annF, annU, annN, annB, annT] at gz
      simp only [wpMix]
      go_wp2_with fail
      go_meet
      case rel => exact ⟨rfl, Lib.hid hW⟩
    case rest =>
      obtain ⟨rfl, HE5⟩ := hcut
      clear x0 x1 x2 y0 y1 y2 z0 z1 z2
      have HEF : Hid (Ext w3 wc) := Lib.hid (HE4.out.trans HE5.out)
      have x0 := fun x : XW wc => ((HEF.out.trans x.ext)).cell (cellRow HBX.out 0 (.string ⟨#[120]⟩) rfl) (fun h => h)
      have x1 := fun x : XW wc => ((HEF.out.trans x.ext)).cell (cellRow HBX.out 1 (.string ⟨#[115]⟩) rfl) (fun h => h)
      have x2 := fun x : XW wc => ((HEF.out.trans x.ext)).cell (cellRow HBX.out 2 (.slice none 0 0) rfl) (fun h => h)
      have y0 := fun x : XW wc => ((HEF.out.trans x.ext)).cell (cellRow HBY.out 0 (.string ⟨#[121]⟩) rfl) (fun h => h)
      have y1 := fun x : XW wc => ((HEF.out.trans x.ext)).cell (cellRow HBY.out 1 (.string ⟨#[115]⟩) rfl) (fun h => h)
      have y2 := fun x : XW wc => ((HEF.out.trans x.ext)).cell (cellRow HBY.out 2 (.slice none 0 0) rfl) (fun h => h)
      have z0 := fun x : XW wc => ((HEF.out.trans x.ext)).cell (cellRow HBZ.out 0 (.string ⟨#[122]⟩) rfl) (fun h => h)
      have z1 := fun x : XW wc => ((HEF.out.trans x.ext)).cell (cellRow HBZ.out 1 (.string ⟨#[115]⟩) rfl) (fun h => h)
      have z2 := fun x : XW wc => ((HEF.out.trans x.ext)).cell (cellRow HBZ.out 2 (.slice none 0 0) rfl) (fun h => h)
      go_upto_region 6 with fail
      go_cut [0] (fun r0 ww => r0 = .bool true ∧ Hid (Ext wc ww))
      case first =>
        refine PF.wp_region_parF (α := Nat × Option Addr × Nat) 18 [] 17 [] [[], [0], [0, 1], [0, 1, 2], [0, 1, 2, 3], [0, 1, 2, 3, 4], [0, 1, 2, 3, 4, 5], [0, 1, 2, 3, 4, 5, 6], [0, 1, 2, 3, 4, 5, 6], [0, 1, 2, 3, 4, 5, 6], [0, 1, 2, 3, 4, 5, 6, 8, 9], [0, 1, 2, 3, 4, 5, 6, 8, 9, 10], [0, 1, 2, 3, 4, 5, 6], [0, 1, 2, 3, 4, 5, 6, 12], [0, 1, 2, 3, 4, 5, 6, 8, 9, 10, 11, 12, 13], [0, 1, 2, 3, 4, 5, 6, 7, 8, 9, 10, 11, 12, 13, 14], [0, 1, 2, 3, 4, 5, 6, 7, 8, 9, 10, 11, 12, 13, 14, 15], [0, 1, 2, 3, 4, 5, 6, 7, 8, 9, 10, 11, 12, 13, 14, 15, 16]] [none, none, none, none, none, none, none, none, none, none, some (annG ⟨#[121]⟩), none, none, none, some (annB), some (annT), none, none] [false, false, false, false, false, false, false, false, false, false, true, false, false, false, true, true, false, false] (by kernel_rfl) (by kernel_rfl) rfl (fun _ _ d _ _ h => by cases d <;> exact h) ?_
        simp only [List.take_succ_cons, List.take_zero, pickO, List.getElem?_cons_zero, List.getElem?_cons_succ]
        refine PF.can_pure0 rfl (fun K hK => ?_); go_simp; refine hK _ ?_; clear hK K
        refine PF.can_pure0 rfl (fun K hK => ?_); go_simp; refine hK _ ?_; clear hK K
        refine PF.can_pure0 rfl (fun K hK => ?_); go_simp; refine hK _ ?_; clear hK K
        refine PF.can_pure0 rfl (fun K hK => ?_); go_simp; refine hK _ ?_; clear hK K
        refine PF.can_pure0 rfl (fun K hK => ?_); go_simp; refine hK _ ?_; clear hK K
        refine PF.can_pure0 rfl (fun K hK => ?_); go_simp; refine hK _ ?_; clear hK K
        refine PF.can_pure0 rfl (fun K hK => ?_); go_simp; refine hK _ ?_; clear hK K
        refine PF.can_pure0 rfl (fun K hK => ?_); go_simp; refine hK _ ?_; clear hK K
        refine PF.can_pure0 rfl (fun K hK => ?_); go_simp; refine hK _ ?_; clear hK K
        refine PF.can_pure0 rfl (fun K hK => ?_); go_simp; refine hK _ ?_; clear hK K
        refine PF.can_mem _ rfl (by go_simp) (fun W hW hG K hK => ?_) (fun K z10 hK => ?_)
        · go_simp
          refine (ex58_x _ _ _ _ _ W).mono ?_
          rintro e w' ⟨b, rfl, hb, hsz, hE⟩
          exact hK (b, none, 0) _ hE hb (fun k e => by cases e)
        refine hK _ ?_; clear hK K
        dsimp only [annG, annF, annU, annN, annB, annT]
        refine PF.can_pure0 rfl (fun K hK => ?_); go_simp; refine hK _ ?_; clear hK K
        refine PF.can_pure0 rfl (fun K hK => ?_); go_simp; refine hK _ ?_; clear hK K
        refine PF.can_pure0 rfl (fun K hK => ?_); go_simp; refine hK _ ?_; clear hK K
        refine PF.can_mem _ rfl (by go_simp) (fun W hW hG K hK => ?_) (fun K z14 hK => ?_)
        · have g := hG _ (List.mem_append_right _ (List.mem_singleton.2 rfl)) (by show (10 : Nat) ∈ _; decide)
          go_simp
          exact hK (W.heap.size, none, 0) _ ((Upd.refl (fun _ => False) W).alloc _) (exo_bn g) (fun k e => by cases e)
        refine hK _ ?_; clear hK K
        dsimp only [annG, annF, annU, annN, annB, annT]
        refine PF.can_mem _ rfl (by go_simp) (fun W hW hG K hK => ?_) (fun K z15 hK => ?_)
        · have g := hG _ (List.mem_append_right _ (List.mem_singleton.2 rfl)) (by show (14 : Nat) ∈ _; decide)
          go_simp
          refine (rsameB_x exoL exoL _ _ _ _ _ _ W (HB4.out.ext (HE5.out.trans hW)) g (by decide) (by decide)).mono ?_
          rintro e w' ⟨he, hE⟩
          rw [decide_eq_true rfl] at he
          subst he
          exact hK (0, none, 0) _ hE trivial (fun k e => by cases e)
        refine hK _ ?_; clear hK K
        dsimp only [annG, annF, annU, annN, annB, annT]
        refine PF.can_pure0 rfl (fun K hK => ?_); go_simp; refine hK _ ?_; clear hK K
        refine PF.can_pure0 rfl (fun K hK => ?_); go_simp; refine hK _ ?_; clear hK K
        unfold PF.Can
        intro w8 hW hG hAp
        have gz := hG _ (List.mem_append_right _ (List.mem_singleton.2 rfl))
        clear hG hAp
        dsimp only [annG, annF, annU, annN, annB, annT] at gz
        simp only [wpMix]
        go_wp2_with fail
        go_meet
        case rel => exact ⟨rfl, Lib.hid hW⟩
      case rest =>
        obtain ⟨rfl, HE6⟩ := hcut
        clear x0 x1 x2 y0 y1 y2 z0 z1 z2
        go_wp2_with fail
        go_ret
        exact ⟨rfl, HZ.out.trans (HEF.out.trans HE6.out)⟩

end Go.Proofs.YtlkcjmaiahnodaaGreatDoor

/- match. -/
namespace Go.Proofs.YtlkcjmaiahnodaaGreatDoor
open Go.RowKit Go.Hw Go
set_option linter.unusedVariables false
set_option linter.unusedSimpArgs false

open Tm Go.Sort Go.Proofs Go.ChangeMaps
def TbB (S : Nat → Prop) (w : World) (b : Nat) (B : List Bd) : Prop := ∃ l : List Be, TbR S w b l ∧ l.map (·.1) = B ∧ ∀ x ∈ l, x.1.2.2.size ≤ 100000
theorem TbB.kept {S F : Nat → Prop} {w w' : World} {b : Nat} {B : List Bd} (h : TbB S w b B) (hu : Upd F w w') (hb : ¬ F b) (hF : ∀ k, S k → ¬ F k) : TbB S w' b B := by
  obtain ⟨l, ⟨h1, h2, h3⟩, h4, h5⟩ := h
  exact ⟨l, ⟨h1.kept hu hb, h2, fun x hx => (h3 x hx).kept hu hF⟩, h4, h5⟩
theorem TbB.ext {S : Nat → Prop} {w w' : World} {b : Nat} {B : List Bd} (h : TbB S w b B) (hu : Ext w w') : TbB S w' b B := h.kept hu (fun h => h) (fun _ _ h => h)
theorem TbB.made (S : Nat → Prop) (w : World) : TbB S (w.alloc (.map #[] 0)) w.heap.size [] := ⟨[], ⟨MpR.made _ w, List.nodup_nil, fun x hx => by cases hx⟩, rfl, fun x hx => by cases hx⟩
end Go.Proofs.YtlkcjmaiahnodaaGreatDoor

/- Instance, Variant. -/
namespace Go.Proofs.YtlkcjmaiahnodaaGreatDoor
open Go.RowKit Go.Hw Go
set_option linter.unusedVariables false
set_option linter.unusedSimpArgs false

open Tm Go.Sort Go.Proofs Go.ChangeMaps
end Go.Proofs.YtlkcjmaiahnodaaGreatDoor

/- Rename. -/
namespace Go.Proofs.YtlkcjmaiahnodaaGreatDoor
open Go.RowKit Go.Hw Go
set_option linter.unusedVariables false
set_option linter.unusedSimpArgs false

open Tm Go.Sort Go.Proofs Go.ChangeMaps
end Go.Proofs.YtlkcjmaiahnodaaGreatDoor

/- Rename. -/
namespace Go.Proofs.YtlkcjmaiahnodaaGreatDoor
open Go.RowKit Go.Hw Go
set_option linter.unusedVariables false
set_option linter.unusedSimpArgs false

open Tm Go.Sort Go.Proofs Go.ChangeMaps
end Go.Proofs.YtlkcjmaiahnodaaGreatDoor

/- renamed, of the reference. -/
namespace Go.Proofs.YtlkcjmaiahnodaaGreatDoor
open Go.RowKit Go.Hw Go
set_option linter.unusedVariables false
set_option linter.unusedSimpArgs false

open Tm Go.Sort Go.Proofs Go.ChangeMaps
end Go.Proofs.YtlkcjmaiahnodaaGreatDoor

/- Rename, of the reference. -/
namespace Go.Proofs.YtlkcjmaiahnodaaGreatDoor
open Go.RowKit Go.Hw Go
set_option linter.unusedVariables false
set_option linter.unusedSimpArgs false

open Tm Go.Sort Go.Proofs Go.ChangeMaps
end Go.Proofs.YtlkcjmaiahnodaaGreatDoor
