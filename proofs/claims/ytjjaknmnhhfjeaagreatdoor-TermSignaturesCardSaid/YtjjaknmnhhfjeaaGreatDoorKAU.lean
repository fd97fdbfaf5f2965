/- The texts Y16 NX N51 N52 N59, one behind the other. -/
import Derived.Test.YtjjaknmnhhfjeaaGreatDoorKAT
import Derived.Test.YtjjaknmnhhfjeaaGreatDoorKAL
import Derived.Test.YtjjaknmnhhfjeaaGreatDoorKAJ
import Derived.Test.YtjjaknmnhhfjeaaGreatDoorKAP
/- awake of law02. -/
namespace Go.Proofs.YtjjaknmnhhfjeaaGreatDoor
open Go.RowKit Go.Hw Go
set_option linter.unusedVariables false
set_option linter.unusedSimpArgs false

open Tm
def xT : Tm := .mk ⟨#[88]⟩ ⟨#[110, 97, 116]⟩ []
def zT : Tm := .mk ⟨#[122, 101, 114, 111]⟩ nul []
def sT : Tm := .mk ⟨#[115]⟩ nul [xT]
def szT : Tm := .mk ⟨#[115]⟩ nul [zT, zT]
def s1T : Tm := .mk ⟨#[115]⟩ nul [.mk ⟨#[111, 110, 101]⟩ nul []]
theorem ev1 : sortF numG sT = (⟨#[110, 97, 116]⟩, 0) := by decide +kernel
theorem ev2 : sortF numG szT = (nul, 3) := by decide +kernel
theorem ev3 : sortF numG s1T = (nul, 9) := by decide +kernel
theorem ev4 : atF sT [0] = (xT, 0) := by decide +kernel
theorem ev5 : tsgF numG = (⟨#[115, 111, 114, 116, 32, 110, 97, 116, 10, 111, 112, 32, 122, 101, 114, 111, 40, 41, 32, 45, 62, 32, 110, 97, 116, 10, 111, 112, 32, 115, 40, 110, 97, 116, 41, 32, 45, 62, 32, 110, 97, 116, 10]⟩, 0) := by decide +kernel
theorem ev6 : szF sT = 2 ∧ dpF sT = 2 := by decide +kernel
def tokX : List Tok := [⟨1, ⟨#[115]⟩, 0, 1, 1⟩, ⟨4, ⟨#[40]⟩, 0, 1, 2⟩, ⟨1, ⟨#[88]⟩, 0, 1, 3⟩, ⟨4, ⟨#[58]⟩, 0, 1, 4⟩, ⟨1, ⟨#[110, 97, 116]⟩, 0, 1, 5⟩, ⟨4, ⟨#[41]⟩, 0, 1, 8⟩, ⟨5, nul, 0, 1, 9⟩]
theorem ev7 : tokF (wdF fun _ => (0, false)) ⟨#[115, 40, 88, 58, 110, 97, 116, 41]⟩ = .ok tokX := by kernel_rfl
theorem ev8 : pT tokX tokX.length 0 = .ok sT 6 := by kernel_rfl
theorem ev9 : (tk tokX 6).kind = 5 := rfl
theorem ev10 : formed nmB sT = true ∧ (sortsT sT).isSome = true := by decide +kernel
theorem ev11 : ∀ i k : Fin 9, i.val < k.val → (∀ j : Fin 9, i.val ≤ j.val → j.val < k.val → 2 ≤ clsN (byt ⟨#[115, 40, 88, 58, 110, 97, 116, 41]⟩ j.val)) → kwB ((⟨#[115, 40, 88, 58, 110, 97, 116, 41]⟩ : ByteArray).extract i.val k.val) = true ∨ nmB ((⟨#[115, 40, 88, 58, 110, 97, 116, 41]⟩ : ByteArray).extract i.val k.val) = true := by decide +kernel
theorem parseX (w : World) (htab : AscT w) : Calls Tryz.prog 25 #[.string ⟨#[115, 40, 88, 58, 110, 97, 116, 41]⟩] w fun e w' => ∃ u, e = .returned (.tuple #[tV sT u, .agg #[.int .i64 0, .int .i64 0], .int .i64 0]) ∧ TlR (fun k => w.heap.size ≤ k ∧ k < w'.heap.size) w' sT.kids u ∧ Ext w w' :=
  parse_ok_x (fun _ => (0, false)) ⟨#[115, 40, 88, 58, 110, 97, 116, 41]⟩ tokX sT 6 w htab (fun i k W hik hk h hW => pword_x _ _ W (asc_ext htab hW) (by
    have hs : (⟨#[115, 40, 88, 58, 110, 97, 116, 41]⟩ : ByteArray).size = 8 := rfl
    rcases ev11 ⟨i, by omega⟩ ⟨k, by omega⟩ hik (fun j h1 h2 => h j.val h1 h2) with h3 | h3
    · exact .inl h3
    · exact .inr (.inl h3))) ev7 ev8 ev9 ev10.1 ev10.2
theorem sg_any {S : Nat → Prop} {W W' : World} {v : Value} {g : Sg} (h : SgR S W g v) (hS : ∀ k, S k → k < W.heap.size) (hu : Ext W W') : SgR (fun k => k < W'.heap.size) W' g v := by
  obtain ⟨sa, sc, oa, oc, e, h1, h2⟩ := h.ext hu
  exact ⟨sa, sc, oa, oc, e, SlR.weaken h1 (fun k hk => Nat.lt_of_lt_of_le (hS k hk) hu.size), h2.weaken (fun k hk => Nat.lt_of_lt_of_le (hS k hk) hu.size)⟩
def annSg : Ann Value := ⟨fun x => x, fun x W => SgR (fun k => k < W.heap.size) W numG x, fun x W W' h hE => sg_any h (fun k hk => hk) hE⟩
def vn : Value → Nat
  | .slice (some a) _ _ => a.block
  | _ => 0
def annZ : Ann Value := ⟨fun x => .slice (some ⟨vn x, 0, none⟩) 2 2, fun x W => TmR (fun k => k < W.heap.size) W szT (.agg #[.string ⟨#[115]⟩, .string ⟨#[]⟩, .slice (some ⟨vn x, 0, none⟩) 2 2]), fun x W W' h hE => (h.ext hE).weaken (fun k hk => Nat.lt_of_lt_of_le hk hE.size)⟩
theorem sortX (t : Tm) (v u : Value) (w : World) (hG : SgR (fun k => k < w.heap.size) w numG v) (hT : TmR (fun k => k < w.heap.size) w t u) (htab : AscT w) (hsz : t.size ≤ 10) : Calls Tryz.prog 30 #[v, u] w fun e w' => e = .returned (.tuple #[.string (sortF numG t).1, .int .i64 (sortF numG t).2]) ∧ Ext w w' :=
  psort_x numG t v u _ w hG (fun k hk => hk) hT htab (by omega) (by decide) (by decide) (by decide)
set_option maxRecDepth 100000 in
set_option maxHeartbeats 8000000 in
theorem awake_x (w : World) (htab : AscT w) : Calls Tryz.prog 9 #[] w fun e w' => e = .returned (.bool true) ∧ Ext w w' := by
  have HTAB := Lib.hid (fun W (hW : Ext w W) => asc_ext htab hW)
  have HE3 := Lib.hid (((((Upd.refl (fun _ => False) w).alloc (.cells #[.string ⟨#[88]⟩, .string ⟨#[110, 97, 116]⟩, .slice none 0 0] 24)).alloc (.cells #[.string ⟨#[88]⟩, .string ⟨#[110, 97, 116]⟩, .slice none 0 0] 24)).alloc (.cells #[.string ⟨#[115]⟩, .string ⟨#[]⟩, .slice (some ⟨w.heap.size + 1, 0, none⟩) 1 1] 24)).alloc (.cells #[.string ⟨#[122, 101, 114, 111]⟩, .string ⟨#[]⟩, .slice none 0 0] 24))
  have HX0 := Lib.hid (allocOld (allocOld (allocOld (alloc0 w (.cells #[.string ⟨#[88]⟩, .string ⟨#[110, 97, 116]⟩, .slice none 0 0] 24)) (.cells #[.string ⟨#[88]⟩, .string ⟨#[110, 97, 116]⟩, .slice none 0 0] 24)) (.cells #[.string ⟨#[115]⟩, .string ⟨#[]⟩, .slice (some ⟨w.heap.size + 1, 0, none⟩) 1 1] 24)) (.cells #[.string ⟨#[122, 101, 114, 111]⟩, .string ⟨#[]⟩, .slice none 0 0] 24))
  have HR0 := Lib.hid (allocOld (allocOld (alloc_at (w.alloc (.cells #[.string ⟨#[88]⟩, .string ⟨#[110, 97, 116]⟩, .slice none 0 0] 24)) (.cells #[.string ⟨#[88]⟩, .string ⟨#[110, 97, 116]⟩, .slice none 0 0] 24) (n := w.heap.size + 1) (by simp)) (.cells #[.string ⟨#[115]⟩, .string ⟨#[]⟩, .slice (some ⟨w.heap.size + 1, 0, none⟩) 1 1] 24)) (.cells #[.string ⟨#[122, 101, 114, 111]⟩, .string ⟨#[]⟩, .slice none 0 0] 24))
  have HS0 := Lib.hid (allocOld (alloc_at ((w.alloc (.cells #[.string ⟨#[88]⟩, .string ⟨#[110, 97, 116]⟩, .slice none 0 0] 24)).alloc (.cells #[.string ⟨#[88]⟩, .string ⟨#[110, 97, 116]⟩, .slice none 0 0] 24)) (.cells #[.string ⟨#[115]⟩, .string ⟨#[]⟩, .slice (some ⟨w.heap.size + 1, 0, none⟩) 1 1] 24) (n := w.heap.size + 1 + 1) (by simp)) (.cells #[.string ⟨#[122, 101, 114, 111]⟩, .string ⟨#[]⟩, .slice none 0 0] 24))
  have HZ0 := Lib.hid (alloc_at (((w.alloc (.cells #[.string ⟨#[88]⟩, .string ⟨#[110, 97, 116]⟩, .slice none 0 0] 24)).alloc (.cells #[.string ⟨#[88]⟩, .string ⟨#[110, 97, 116]⟩, .slice none 0 0] 24)).alloc (.cells #[.string ⟨#[115]⟩, .string ⟨#[]⟩, .slice (some ⟨w.heap.size + 1, 0, none⟩) 1 1] 24)) (.cells #[.string ⟨#[122, 101, 114, 111]⟩, .string ⟨#[]⟩, .slice none 0 0] 24) (n := w.heap.size + 1 + 1 + 1) (by simp))
  have x0 := cellRow (alloc0 w (.cells #[.string ⟨#[88]⟩, .string ⟨#[110, 97, 116]⟩, .slice none 0 0] 24)) 0 (.string ⟨#[88]⟩) rfl
  have x1 := cellRow (alloc0 w (.cells #[.string ⟨#[88]⟩, .string ⟨#[110, 97, 116]⟩, .slice none 0 0] 24)) 1 (.string ⟨#[110, 97, 116]⟩) rfl
  have x2 := cellRow (alloc0 w (.cells #[.string ⟨#[88]⟩, .string ⟨#[110, 97, 116]⟩, .slice none 0 0] 24)) 2 (.slice none 0 0) rfl
  have hsz3 : ((((w.alloc (.cells #[.string ⟨#[88]⟩, .string ⟨#[110, 97, 116]⟩, .slice none 0 0] 24)).alloc (.cells #[.string ⟨#[88]⟩, .string ⟨#[110, 97, 116]⟩, .slice none 0 0] 24)).alloc (.cells #[.string ⟨#[115]⟩, .string ⟨#[]⟩, .slice (some ⟨w.heap.size + 1, 0, none⟩) 1 1] 24)).alloc (.cells #[.string ⟨#[122, 101, 114, 111]⟩, .string ⟨#[]⟩, .slice none 0 0] 24)).heap.size = w.heap.size + 4 := by simp
  clear htab
  obtain ⟨n1, hn1⟩ : ∃ x, w.heap.size = x := ⟨_, rfl⟩
  rw [hn1] at HX0 HR0 HS0 HZ0 HE3 hsz3
  go_enter Tryz.func9, Tryz.ntmps9
  go_upto_region 4 with fail
  try rw [hn1]
  clear x0 x1 x2
  generalize (((((w.alloc (.cells #[.string ⟨#[88]⟩, .string ⟨#[110, 97, 116]⟩, .slice none 0 0] 24)).alloc (.cells #[.string ⟨#[88]⟩, .string ⟨#[110, 97, 116]⟩, .slice none 0 0] 24)).alloc (.cells #[.string ⟨#[115]⟩, .string ⟨#[]⟩, .slice (some ⟨n1 + 1, 0, none⟩) 1 1] 24)).alloc (.cells #[.string ⟨#[122, 101, 114, 111]⟩, .string ⟨#[]⟩, .slice none 0 0] 24))) = w3 at *
  have HXX := Lib.hid (fun W (hW : Ext w3 W) => hW.heap HX0.out (fun h => h))
  have HSS := Lib.hid (fun W (hW : Ext w3 W) => hW.heap HS0.out (fun h => h))
  have HZZ := Lib.hid (fun W (hW : Ext w3 W) => hW.heap HZ0.out (fun h => h))
  have HTS : Hid (∀ W, Ext w3 W → TmR (fun k => k < W.heap.size) W sT (.agg #[.string ⟨#[115]⟩, .string ⟨#[]⟩, .slice (some ⟨n1 + 1, 0, none⟩) 1 1])) := Lib.hid (fun W hW => by
    have hs := hW.size
    refine ⟨some ⟨n1 + 1, 0, none⟩, 1, rfl, .mk _ [.slice none 0 0] _ rfl (SlR.mk' rfl rfl (by decide) (fun _ => by omega) (fun j hj => ?_)) (fun i hi => ?_)⟩
    · have hr := hW.heap HR0.out (fun h => h)
      have hj3 : j < 3 := hj
      rcases j with _ | _ | _ | j
      · exact cellRow hr 0 _ rfl
      · exact cellRow hr 1 _ rfl
      · exact cellRow hr 2 _ rfl
      · omega
    · have hi1 : i < 1 := hi
      obtain rfl : i = 0 := by omega
      exact TlR.nil _ _)
  clear HX0 HR0 HS0 HZ0
  -- the first Sort
  have Y0 := fun x : XW w3 => cellRow (HSS.out x.val x.ext) 0 (.string ⟨#[115]⟩) rfl
  have Y1 := fun x : XW w3 => cellRow (HSS.out x.val x.ext) 1 (.string ⟨#[]⟩) rfl
  have Y2 := fun x : XW w3 => cellRow (HSS.out x.val x.ext) 2 (.slice (some ⟨n1 + 1, 0, none⟩) 1 1) rfl
  refine wp_region_par (α := Value) 8 [] [[], [], [0, 1], [0, 1, 2], [0, 1, 2, 3], [0, 1, 2, 3], [0, 1, 2, 3, 4], [0, 1, 2, 3, 4, 5, 6]]
    [some annSg, none, some (annVal (.tuple #[.string ⟨#[110, 97, 116]⟩, .int .i64 0])), none, none, none, none, none] [true, false, true, false, false, false, false, false] (by kernel_rfl) (by kernel_rfl) rfl (fun _ _ d _ _ h => by cases d <;> exact h) ?_
  simp only [List.take_succ_cons, List.take_zero, pickO]
  refine can_mem _ rfl (by go_simp) (fun W hW hG K hK => ?_) (fun K v0 hK => ?_)
  · go_simp
    refine (numbers_x W).mono ?_
    rintro e w' ⟨v, rfl, hv, h⟩
    exact hK v w' h (sg_any hv (fun k hk => hk.2) (Upd.refl _ _))
  refine hK _ ?_; clear hK K
  dsimp only [annSg]
  (refine can_pure0 rfl (fun K hK => ?_); go_simp; refine hK _ ?_; clear hK K)
  refine can_mem _ rfl (by go_simp) (fun W hW hG K hK => ?_) (fun K v1 hK => ?_)
  · have hg := hG _ (List.mem_singleton.2 rfl) (by show (0 : Nat) ∈ _; decide)
    go_simp
    refine (sortX sT v0 (.agg #[.string ⟨#[115]⟩, .string ⟨#[]⟩, .slice (some ⟨n1 + 1, 0, none⟩) 1 1]) W hg (HTS.out W hW) (HTAB.out W (HE3.out.trans hW)) (by decide)).mono ?_
    rintro e w' ⟨rfl, h⟩
    rw [ev1]
    exact hK default w' h trivial
  refine hK _ ?_; clear hK K
  dsimp only [annVal]
  iterate 5 (refine can_pure0 rfl (fun K hK => ?_); go_simp; refine hK _ ?_; clear hK K)
  refine can_end (fun W hW hG => ?_)
  clear hG Y0 Y1 Y2
  have HE4 := Lib.hid hW
  clear hW
  simp only [wpMix]
  -- At
  have s0 := cellRow (HSS.out W HE4.out) 0 (.string ⟨#[115]⟩) rfl
  have s1 := cellRow (HSS.out W HE4.out) 1 (.string ⟨#[]⟩) rfl
  have s2 := cellRow (HSS.out W HE4.out) 2 (.slice (some ⟨n1 + 1, 0, none⟩) 1 1) rfl
  have HEA := Lib.hid (HE4.out.alloc (.cells #[.int .i64 0] 3))
  have HAT := Lib.hid (At_x sT [0] (.agg #[.string ⟨#[115]⟩, .string ⟨#[]⟩, .slice (some ⟨n1 + 1, 0, none⟩) 1 1]) (.slice (some ⟨W.heap.size, 0, none⟩) 1 1) _ (fun k => k = W.heap.size) (W.alloc (.cells #[.int .i64 0] 3)) (HTS.out _ HEA.out) (fun k hk => hk) (SlR.mk' rfl rfl (by decide) (fun _ => rfl) (fun j hj => by
    have hj1 : j < 1 := hj
    obtain rfl : j = 0 := by omega
    exact cellRow (alloc0 _ _) 0 _ rfl)) (HTAB.out _ (HE3.out.trans HEA.out)) (by decide) (by decide))
  rw [ev4] at HAT
  go_wp2_with fail
  refine HAT.out.mono ?_
  rintro e w5 ⟨u, rfl, hu, hw5⟩
  obtain ⟨ua, uc, hus⟩ := hu.shape
  subst hus
  have HUU := Lib.hid hu
  have HE5 := Lib.hid (HEA.out.trans hw5)
  clear hw5 hu HAT s0 s1 s2
  have HE6 := Lib.hid (HE5.out.alloc (.cells #[.string xT.name, .string xT.sort, .slice ua xT.kids.length uc] 24))
  have HU0 := Lib.hid (alloc0 w5 (.cells #[.string xT.name, .string xT.sort, .slice ua xT.kids.length uc] 24))
  have HTU := Lib.hid (HUU.out.ext ((Upd.refl (fun _ => False) w5).alloc (.cells #[.string xT.name, .string xT.sort, .slice ua xT.kids.length uc] 24)))
  have hsz6 : (w5.alloc (.cells #[.string xT.name, .string xT.sort, .slice ua xT.kids.length uc] 24)).heap.size = w5.heap.size + 1 := by simp
  clear HUU HE4 HE5 HEA
  go_upto_region 6 with fail
  generalize (w5.alloc (.cells #[.string xT.name, .string xT.sort, .slice ua xT.kids.length uc] 24)) = w6 at *
  have HUX := Lib.hid (fun W (hW : Ext w6 W) => hW.heap HU0.out (fun h => h))
  have HE36 : Hid (Ext w3 w6) := HE6
  -- the second Sort
  have Z0 := fun x : XW w6 => cellRow (HZZ.out x.val (HE36.out.trans x.ext)) 0 (.string ⟨#[122, 101, 114, 111]⟩) rfl
  have Z1 := fun x : XW w6 => cellRow (HZZ.out x.val (HE36.out.trans x.ext)) 1 (.string ⟨#[]⟩) rfl
  have Z2 := fun x : XW w6 => cellRow (HZZ.out x.val (HE36.out.trans x.ext)) 2 (.slice none 0 0) rfl
  refine wp_region_par (α := Value) 11 [] [[], [], [], [1, 2], [1, 2, 3], [0, 1, 2, 3, 4], [0, 1, 2, 3, 4, 5], [0, 1, 2, 3, 4, 5, 6], [0, 1, 2, 3, 4, 5, 6], [0, 1, 2, 3, 4, 5, 6, 7], [0, 1, 2, 3, 4, 5, 6, 7, 8, 9]]
    [some annSg, none, none, some annZ, none, some (annVal (.tuple #[.string nul, .int .i64 3])), none, none, none, none, none] [true, false, false, true, false, true, false, false, false, false, false] (by kernel_rfl) (by kernel_rfl) rfl (fun _ _ d _ _ h => by cases d <;> exact h) ?_
  simp only [List.take_succ_cons, List.take_zero, pickO]
  refine can_mem _ rfl (by go_simp) (fun W hW hG K hK => ?_) (fun K v0 hK => ?_)
  · go_simp
    refine (numbers_x W).mono ?_
    rintro e w' ⟨v, rfl, hv, h⟩
    exact hK v w' h (sg_any hv (fun k hk => hk.2) (Upd.refl _ _))
  refine hK _ ?_; clear hK K
  dsimp only [annSg]
  iterate 2 (refine can_pure0 rfl (fun K hK => ?_); go_simp; refine hK _ ?_; clear hK K)
  refine can_mem _ rfl (by go_simp) (fun W hW hG K hK => ?_) (fun K v1 hK => ?_)
  · go_simp
    refine hK (.slice (some ⟨W.heap.size, 0, none⟩) 2 2) _ ((Upd.refl _ W).alloc _) ?_
    refine ⟨some ⟨W.heap.size, 0, none⟩, 2, rfl, .mk _ [.slice none 0 0, .slice none 0 0] _ rfl (SlR.mk' rfl rfl (by decide) (fun _ => by show W.heap.size < _; simp) (fun j hj => ?_)) (fun i hi => ?_)⟩
    · have hj6 : j < 6 := hj
      rcases j with _ | _ | _ | _ | _ | _ | j
      · exact cellRow (alloc0 _ _) 0 _ rfl
      · exact cellRow (alloc0 _ _) 1 _ rfl
      · exact cellRow (alloc0 _ _) 2 _ rfl
      · exact cellRow (alloc0 _ _) 3 _ rfl
      · exact cellRow (alloc0 _ _) 4 _ rfl
      · exact cellRow (alloc0 _ _) 5 _ rfl
      · omega
    · have hi2 : i < 2 := hi
      rcases i with _ | _ | i
      · exact TlR.nil _ _
      · exact TlR.nil _ _
      · omega
  refine hK _ ?_; clear hK K
  dsimp only [annZ]
  (refine can_pure0 rfl (fun K hK => ?_); go_simp; refine hK _ ?_; clear hK K)
  refine can_mem _ rfl (by go_simp) (fun W hW hG K hK => ?_) (fun K v2 hK => ?_)
  · have hg := hG _ (List.mem_cons_self ..) (by show (0 : Nat) ∈ _; decide)
    have hg1 := hG _ (List.mem_cons_of_mem _ (List.mem_cons_self ..)) (by show (3 : Nat) ∈ _; decide)
    go_simp
    refine (sortX szT v0 (.agg #[.string ⟨#[115]⟩, .string ⟨#[]⟩, .slice (some ⟨vn v1, 0, none⟩) 2 2]) W hg hg1 (HTAB.out W (HE3.out.trans (HE36.out.trans hW))) (by decide)).mono ?_
    rintro e w' ⟨rfl, h⟩
    rw [ev2]
    exact hK default w' h trivial
  refine hK _ ?_; clear hK K
  dsimp only [annVal]
  iterate 5 (refine can_pure0 rfl (fun K hK => ?_); go_simp; refine hK _ ?_; clear hK K)
  refine can_end (fun W hW hG => ?_)
  clear hG Z0 Z1 Z2
  have HE7 := Lib.hid hW
  have HT6 := Lib.hid (fun W' (hW' : Ext w6 W') => HTAB.out W' (HE3.out.trans (HE36.out.trans hW')))
  clear hW
  simp only [wpMix]
  -- the third Sort
  go_wp2_with fail
  refine (numbers_x W).mono ?_
  rintro e w7 ⟨v7, rfl, hv7, h7⟩
  have HV7 := Lib.hid hv7
  have HE77 := Lib.hid (HE7.out.trans h7)
  have HEa := Lib.hid (HE77.out.alloc (.cells #[.string ⟨#[111, 110, 101]⟩, .string ⟨#[]⟩, .slice none 0 0] 24))
  clear hv7 h7
  go_wp2_with fail
  have HT1 : TmR (fun k => k < (w7.alloc (.cells #[.string ⟨#[111, 110, 101]⟩, .string ⟨#[]⟩, .slice none 0 0] 24)).heap.size) (w7.alloc (.cells #[.string ⟨#[111, 110, 101]⟩, .string ⟨#[]⟩, .slice none 0 0] 24)) s1T (.agg #[.string ⟨#[115]⟩, .string ⟨#[]⟩, .slice (some ⟨w7.heap.size, 0, none⟩) 1 1]) := by
    refine ⟨some ⟨w7.heap.size, 0, none⟩, 1, rfl, .mk _ [.slice none 0 0] _ rfl (SlR.mk' rfl rfl (by decide) (fun _ => by show w7.heap.size < _; simp) (fun j hj => ?_)) (fun i hi => ?_)⟩
    · have hj3 : j < 3 := hj
      rcases j with _ | _ | _ | j
      · exact cellRow (alloc0 _ _) 0 _ rfl
      · exact cellRow (alloc0 _ _) 1 _ rfl
      · exact cellRow (alloc0 _ _) 2 _ rfl
      · omega
    · have hi1 : i < 1 := hi
      obtain rfl : i = 0 := by omega
      exact TlR.nil _ _
  refine (sortX s1T v7 (.agg #[.string ⟨#[115]⟩, .string ⟨#[]⟩, .slice (some ⟨w7.heap.size, 0, none⟩) 1 1]) (w7.alloc (.cells #[.string ⟨#[111, 110, 101]⟩, .string ⟨#[]⟩, .slice none 0 0] 24)) (sg_any HV7.out (fun k hk => hk.2) ((Upd.refl _ _).alloc _)) HT1 (HT6.out _ HEa.out) (by decide)).mono ?_
  clear HT1
  rintro e w8 ⟨rfl, h8⟩
  rw [ev3]
  have HE8 := Lib.hid (HEa.out.trans h8)
  clear h8
  go_wp2_with fail
  refine (numbers_x w8).mono ?_
  rintro e w9 ⟨v9, rfl, hv9, h9⟩
  have HV9 := Lib.hid hv9
  have HE9 := Lib.hid (HE8.out.trans h9)
  clear hv9 h9
  go_wp2_with fail
  refine (tsig_x numG v9 _ w9 HV9.out (fun k hk => hk.2) (HT6.out _ HE9.out) (by decide) (by decide) (by decide)).mono ?_
  rintro e w10 ⟨rfl, h10⟩
  rw [ev5]
  have HEb := Lib.hid (HE9.out.trans h10)
  clear h10
  go_wp2_with fail
  refine (parseX w10 (HT6.out _ HEb.out)).mono ?_
  rintro e w11 ⟨u1, rfl, hu1, h11⟩
  obtain ⟨ya, yc, hys⟩ := hu1.shape
  subst hys
  have HEc := Lib.hid (HEb.out.trans h11)
  have HEd := Lib.hid ((HEc.out.alloc (.cells #[.string sT.name, .string sT.sort, .slice ya sT.kids.length yc] 24)).alloc (.cells #[.int .i64 0, .int .i64 0] 45))
  have HYR := Lib.hid (allocOld (alloc0 w11 (.cells #[.string sT.name, .string sT.sort, .slice ya sT.kids.length yc] 24)) (.cells #[.int .i64 0, .int .i64 0] 45))
  have HTY := Lib.hid ((hu1.ext (((Upd.refl (fun _ => False) w11).alloc (.cells #[.string sT.name, .string sT.sort, .slice ya sT.kids.length yc] 24)).alloc (.cells #[.int .i64 0, .int .i64 0] 45))))
  clear hu1 h11
  go_upto_region 10 with fail
  generalize ((w11.alloc (.cells #[.string sT.name, .string sT.sort, .slice ya sT.kids.length yc] 24)).alloc (.cells #[.int .i64 0, .int .i64 0] 45)) = w12 at *
  have U0 := cellRow (HUX.out w12 HEd.out) 0 (.string xT.name) rfl
  have U1 := cellRow (HUX.out w12 HEd.out) 1 (.string xT.sort) rfl
  have U2 := cellRow (HUX.out w12 HEd.out) 2 (.slice ua xT.kids.length uc) rfl
  have X0 := cellRow (HXX.out w12 (HE36.out.trans HEd.out)) 0 (.string ⟨#[88]⟩) rfl
  have X1 := cellRow (HXX.out w12 (HE36.out.trans HEd.out)) 1 (.string ⟨#[110, 97, 116]⟩) rfl
  have X2 := cellRow (HXX.out w12 (HE36.out.trans HEd.out)) 2 (.slice none 0 0) rfl
  have HS1 := Lib.hid (same_x xT xT (tV xT (.slice ua xT.kids.length uc)) (tV xT (.slice none 0 0)) _ (fun _ => False) w12 (TmR.of (HTU.out.ext HEd.out)) (TmR.of (TlR.nil _ _)) (by decide))
  rw [decide_eq_true (rfl : xT = xT)] at HS1
  go_wp2_with fail
  refine HS1.out.mono ?_
  rintro e w13 ⟨rfl, h13⟩
  have HEe := Lib.hid (HEd.out.trans h13)
  have HYS := Lib.hid (h13.heap HYR.out (fun h => h))
  have HTZ := Lib.hid (HTY.out.ext h13)
  clear h13 HS1 U0 U1 U2 X0 X1 X2
  have U0 := cellRow HYS.out 0 (.string sT.name) rfl
  have U1 := cellRow HYS.out 1 (.string sT.sort) rfl
  have U2 := cellRow HYS.out 2 (.slice ya sT.kids.length yc) rfl
  have X0 := cellRow (HSS.out w13 (HE36.out.trans HEe.out)) 0 (.string ⟨#[115]⟩) rfl
  have X1 := cellRow (HSS.out w13 (HE36.out.trans HEe.out)) 1 (.string ⟨#[]⟩) rfl
  have X2 := cellRow (HSS.out w13 (HE36.out.trans HEe.out)) 2 (.slice (some ⟨n1 + 1, 0, none⟩) 1 1) rfl
  have HS1 := Lib.hid (same_x sT sT (tV sT (.slice ya sT.kids.length yc)) (.agg #[.string ⟨#[115]⟩, .string ⟨#[]⟩, .slice (some ⟨n1 + 1, 0, none⟩) 1 1]) _ _ w13 (TmR.of HTZ.out) (HTS.out w13 (HE36.out.trans HEe.out)) (by decide))
  rw [decide_eq_true (rfl : sT = sT)] at HS1
  go_wp2_with fail
  refine HS1.out.mono ?_
  rintro e w14 ⟨rfl, h14⟩
  have HEf := Lib.hid (HEe.out.trans h14)
  clear h14 HS1 U0 U1 U2 X0 X1 X2
  have X0 := cellRow (HSS.out w14 (HE36.out.trans HEf.out)) 0 (.string ⟨#[115]⟩) rfl
  have X1 := cellRow (HSS.out w14 (HE36.out.trans HEf.out)) 1 (.string ⟨#[]⟩) rfl
  have X2 := cellRow (HSS.out w14 (HE36.out.trans HEf.out)) 2 (.slice (some ⟨n1 + 1, 0, none⟩) 1 1) rfl
  have HS1 := Lib.hid (Size_x sT (.agg #[.string ⟨#[115]⟩, .string ⟨#[]⟩, .slice (some ⟨n1 + 1, 0, none⟩) 1 1]) w14 (HT6.out _ HEf.out) (HTS.out w14 (HE36.out.trans HEf.out)) (by decide))
  rw [ev6.1] at HS1
  go_wp2_with fail
  refine HS1.out.mono ?_
  rintro e w15 ⟨rfl, h15⟩
  have HEg := Lib.hid (HEf.out.trans h15)
  clear h15 HS1 X0 X1 X2
  have X0 := cellRow (HSS.out w15 (HE36.out.trans HEg.out)) 0 (.string ⟨#[115]⟩) rfl
  have X1 := cellRow (HSS.out w15 (HE36.out.trans HEg.out)) 1 (.string ⟨#[]⟩) rfl
  have X2 := cellRow (HSS.out w15 (HE36.out.trans HEg.out)) 2 (.slice (some ⟨n1 + 1, 0, none⟩) 1 1) rfl
  have HS1 := Lib.hid (Depth_x sT (.agg #[.string ⟨#[115]⟩, .string ⟨#[]⟩, .slice (some ⟨n1 + 1, 0, none⟩) 1 1]) w15 (HT6.out _ HEg.out) (HTS.out w15 (HE36.out.trans HEg.out)) (by decide))
  rw [ev6.2] at HS1
  go_wp2_with fail
  refine HS1.out.mono ?_
  rintro e w16 ⟨rfl, h16⟩
  have HEh := Lib.hid (HE3.out.trans (HE36.out.trans (HEg.out.trans h16)))
  clear h16 HS1 X0 X1 X2
  go_wp2_with fail
  refine bodyPost_ret (v := .bool true) (by simp [results, Tryz.results9, go_sem]) rfl ?_
  exact ⟨rfl, HEh.out⟩

end Go.Proofs.YtjjaknmnhhfjeaaGreatDoor

/- What the ported texts take out of texts that this seat has not. -/
namespace Go.Proofs.YtjjaknmnhhfjeaaGreatDoor
open Go.RowKit Go.Hw Go
set_option linter.unusedVariables false
open Tm
end Go.Proofs.YtjjaknmnhhfjeaaGreatDoor

/- big, of law06. -/
namespace Go.Proofs.YtjjaknmnhhfjeaaGreatDoor
open Go.RowKit Go.Hw Go
set_option linter.unusedVariables false
set_option linter.unusedSimpArgs false

open Tm Go.Sort Go.Proofs Go.ChangeMaps
end Go.Proofs.YtjjaknmnhhfjeaaGreatDoor

/- big, zero. -/
namespace Go.Proofs.YtjjaknmnhhfjeaaGreatDoor
open Go.RowKit Go.Hw Go
set_option linter.unusedVariables false
set_option linter.unusedSimpArgs false

open Tm Go.Sort Go.Proofs Go.ChangeMaps
end Go.Proofs.YtjjaknmnhhfjeaaGreatDoor

/- SamePath, SameTrace. -/
namespace Go.Proofs.YtjjaknmnhhfjeaaGreatDoor
open Go.RowKit Go.Hw Go
set_option linter.unusedVariables false
set_option linter.unusedSimpArgs false

open Tm Go.Sort Go.Proofs Go.ChangeMaps
end Go.Proofs.YtjjaknmnhhfjeaaGreatDoor
