/- The texts Y19 Y20, one behind the other. -/
import Derived.Test.YtjjaknmnhhfjeaaGreatDoorKAU
import Derived.Test.YtjjaknmnhhfjeaaGreatDoorKAW
/- wide of law02. -/
namespace Go.Proofs.YtjjaknmnhhfjeaaGreatDoor
open Go.RowKit Go.Hw Go Go.Sort Go.Proofs Go.ChangeMaps
set_option linter.unusedVariables false
set_option linter.unusedSimpArgs false

open Tm
def lngB (s : By) : Bool := decide (100 < s.size)
def wdD (d : Dc) : Bool := lngB d.1 || lngB d.2.2 || decide (40 < d.2.1.length) || d.2.1.any lngB
def wideG (g : Sg) : Bool := decide (60 < g.1.length) || decide (120 < g.2.length) || g.1.any lngB || g.2.any wdD
set_option maxRecDepth 100000 in
set_option maxHeartbeats 2000000 in
theorem wdD_x (x : Dc) (xa : Option Addr) (xc q : Nat) (S : Nat → Prop) (w : World) (hq : w.heap[q]? = some (.cells #[.func (.func 54) #[] #[]] 92 (0, 0))) (hS : StrR S w (.slice xa x.2.1.length xc) x.2.1) :
    Calls Tryz.prog 57 #[.agg #[.string x.1, .slice xa x.2.1.length xc, .string x.2.2], .pointer (some ⟨q, 0, none⟩)] w fun e w' => e = .returned (.bool (wdD x)) ∧ Ext w w' := by
  obtain ⟨dn, da, dr⟩ := x
  dsimp only at hS ⊢
  have HE1 := Lib.hid ((Upd.refl (fun _ => False) w).alloc (.cells #[.string dn, .slice xa da.length xc, .string dr] 96))
  have HB1 := Lib.hid (alloc0 w (.cells #[.string dn, .slice xa da.length xc, .string dr] 96))
  have HQ1 := Lib.hid (allocOld hq (.cells #[.string dn, .slice xa da.length xc, .string dr] 96))
  have HS := Lib.hid hS
  have HV0 : Hid (wdD (dn, da, dr) = (lngB dn || lngB dr || decide (40 < da.length) || da.any lngB)) := Lib.hid rfl
  obtain ⟨V, hV⟩ : ∃ V, wdD (dn, da, dr) = V := ⟨_, rfl⟩
  rw [hV] at HV0 ⊢
  clear hq hS hV
  have d0 := cellRow HB1.out 0 (.string dn) rfl
  have d1 := cellRow HB1.out 1 (.slice xa da.length xc) rfl
  have d2 := cellRow HB1.out 2 (.string dr) rfl
  have q0 := cellRow HQ1.out 0 (.func (.func 54) #[] #[]) rfl
  go_enter Tryz.func57, Tryz.ntmps57
  go_wp2_with fail
  generalize w.alloc (.cells #[.string dn, .slice xa da.length xc, .string dr] 96) = w1 at *
  refine (long54_x dn w1).mono ?_
  rintro e w2 ⟨rfl, h⟩
  clear d0 d1 d2 q0
  have HE2 := Lib.hid (HE1.out.trans h)
  have HB2 := Lib.hid (h.heap HB1.out (fun h => h))
  have HQ2 := Lib.hid (h.heap HQ1.out (fun h => h))
  clear h HE1 HB1 HQ1
  have d0 := cellRow HB2.out 0 (.string dn) rfl
  have d1 := cellRow HB2.out 1 (.slice xa da.length xc) rfl
  have d2 := cellRow HB2.out 2 (.string dr) rfl
  have q0 := cellRow HQ2.out 0 (.func (.func 54) #[] #[]) rfl
  cases h1 : decide (100 < dn.size)
  case true =>
    have HV : Hid (V = true) := Lib.hid (by rw [HV0.out]; unfold lngB; rw [h1]; rfl)
    clear h1
    go_wp2_with fail
    all_goals go_ret
    all_goals (rw [HV.out]; exact ⟨rfl, HE2.out⟩)
  go_wp2_with fail
  refine (long54_x dr w2).mono ?_
  rintro e w3 ⟨rfl, h⟩
  clear d0 d1 d2 q0
  have HE3 := Lib.hid (HE2.out.trans h)
  have HB3 := Lib.hid (h.heap HB2.out (fun h => h))
  have HQ3 := Lib.hid (h.heap HQ2.out (fun h => h))
  clear h HE2 HB2 HQ2
  have d0 := cellRow HB3.out 0 (.string dn) rfl
  have d1 := cellRow HB3.out 1 (.slice xa da.length xc) rfl
  have d2 := cellRow HB3.out 2 (.string dr) rfl
  have q0 := cellRow HQ3.out 0 (.func (.func 54) #[] #[]) rfl
  cases h2 : decide (100 < dr.size)
  case true =>
    have HV : Hid (V = true) := Lib.hid (by rw [HV0.out]; unfold lngB; rw [h1, h2]; rfl)
    clear h1 h2
    go_wp2_with fail
    all_goals go_ret
    all_goals (rw [HV.out]; exact ⟨rfl, HE3.out⟩)
  by_cases hl : 40 < da.length
  · have z1 : (40 : Int) < (da.length : Int) := by omega
    have z2 : decide ((40 : Int) < (da.length : Int)) = true := decide_eq_true z1
    have HV : Hid (V = true) := Lib.hid (by rw [HV0.out]; unfold lngB; rw [h1, h2, decide_eq_true hl]; rfl)
    clear h1 h2
    go_wp2_with fail
    all_goals go_ret
    all_goals (rw [HV.out]; exact ⟨rfl, HE3.out⟩)
  have z1 : ¬ ((40 : Int) < (da.length : Int)) := by omega
  have z2 : decide ((40 : Int) < (da.length : Int)) = false := decide_eq_false z1
  have HV : Hid (V = da.any lngB) := Lib.hid (by rw [HV0.out]; show (decide (100 < dn.size) || decide (100 < dr.size) || decide (40 < da.length) || _) = _; rw [h1, h2, decide_eq_false hl]; rfl)
  clear h1 h2
  have HCN := Lib.hid (conS54_x lngB da (.slice xa da.length xc) S w3 (HS.out.kept HE3.out (fun _ _ h => h)) (by omega) (fun s hs W hW => long54_x s W))
  go_wp2_with fail
  refine HCN.out.mono ?_
  rintro e w4 ⟨rfl, h⟩
  have HE4 := Lib.hid (HE3.out.trans h)
  clear h
  go_wp2_with fail
  all_goals go_ret
  all_goals (rw [HV.out]; exact ⟨rfl, HE4.out⟩)
set_option maxRecDepth 100000 in
set_option maxHeartbeats 2000000 in
theorem wide_x (g : Sg) (v : Value) (S : Nat → Prop) (w : World) (hG : SgR S w g v) :
    Calls Tryz.prog 18 #[v] w fun e w' => e = .returned (.bool (wideG g)) ∧ Ext w w' := by
  obtain ⟨sa, sc, oa, oc, rfl, hS, hD⟩ := hG
  have HS := Lib.hid hS
  have HD := Lib.hid hD
  have HE1 := Lib.hid (((Upd.refl (fun _ => False) w).alloc (.cells #[.slice sa g.1.length sc, .slice oa g.2.length oc] 42)).alloc (.cells #[.func (.func 54) #[] #[]] 92))
  have HB1 := Lib.hid (allocOld (alloc0 w (.cells #[.slice sa g.1.length sc, .slice oa g.2.length oc] 42)) (.cells #[.func (.func 54) #[] #[]] 92))
  have HQ1 := Lib.hid (alloc_at (w.alloc (.cells #[.slice sa g.1.length sc, .slice oa g.2.length oc] 42)) (.cells #[.func (.func 54) #[] #[]] 92) (n := w.heap.size + 1) (by simp))
  have HV0 : Hid (wideG g = (decide (60 < g.1.length) || decide (120 < g.2.length) || g.1.any lngB || g.2.any wdD)) := Lib.hid rfl
  obtain ⟨V, hV⟩ : ∃ V, wideG g = V := ⟨_, rfl⟩
  rw [hV] at HV0 ⊢
  clear hS hD hV
  have c0 := cellRow HB1.out 0 (.slice sa g.1.length sc) rfl
  have c1 := cellRow HB1.out 1 (.slice oa g.2.length oc) rfl
  have q0 := cellRow HQ1.out 0 (.func (.func 54) #[] #[]) rfl
  go_enter Tryz.func18, Tryz.ntmps18
  go_upto_region 2 with fail
  generalize (w.alloc (.cells #[.slice sa g.1.length sc, .slice oa g.2.length oc] 42)).alloc (.cells #[.func (.func 54) #[] #[]] 92) = w1 at *
  by_cases hl : 60 < g.1.length
  · have z1 : (60 : Int) < (g.1.length : Int) := by omega
    have z2 : decide ((60 : Int) < (g.1.length : Int)) = true := decide_eq_true z1
    have HV : Hid (V = true) := Lib.hid (by rw [HV0.out, decide_eq_true hl]; rfl)
    go_wp2_with fail
    all_goals go_ret
    all_goals (rw [HV.out]; exact ⟨rfl, HE1.out⟩)
  have z1 : ¬ ((60 : Int) < (g.1.length : Int)) := by omega
  have z2 : decide ((60 : Int) < (g.1.length : Int)) = false := decide_eq_false z1
  by_cases hm : 120 < g.2.length
  · have z3 : (120 : Int) < (g.2.length : Int) := by omega
    have z4 : decide ((120 : Int) < (g.2.length : Int)) = true := decide_eq_true z3
    have HV : Hid (V = true) := Lib.hid (by rw [HV0.out, decide_eq_true hm, Bool.or_true]; rfl)
    go_wp2_with fail
    all_goals go_ret
    all_goals (rw [HV.out]; exact ⟨rfl, HE1.out⟩)
  have z3 : ¬ ((120 : Int) < (g.2.length : Int)) := by omega
  have z4 : decide ((120 : Int) < (g.2.length : Int)) = false := decide_eq_false z3
  have HV1 : Hid (V = (g.1.any lngB || g.2.any wdD)) := Lib.hid (by rw [HV0.out, decide_eq_false hl, decide_eq_false hm]; rfl)
  have HCN := Lib.hid (conS54_x lngB g.1 (.slice sa g.1.length sc) S w1 (HS.out.kept HE1.out (fun _ _ h => h)) (by omega) (fun s hs W hW => long54_x s W))
  obtain ⟨b1, hb1⟩ : ∃ b, g.1.any lngB = b := ⟨_, rfl⟩
  rw [hb1] at HV1 HCN
  clear hb1 HV0
  go_wp2_with fail
  refine HCN.out.mono ?_
  rintro e w2 ⟨rfl, h⟩
  clear c0 c1 q0 HCN
  have HE2 := Lib.hid (HE1.out.trans h)
  have HB2 := Lib.hid (h.heap HB1.out (fun h => h))
  have HQ2 := Lib.hid (h.heap HQ1.out (fun h => h))
  clear h HE1 HB1 HQ1
  have c0 := cellRow HB2.out 0 (.slice sa g.1.length sc) rfl
  have c1 := cellRow HB2.out 1 (.slice oa g.2.length oc) rfl
  have q0 := cellRow HQ2.out 0 (.func (.func 54) #[] #[]) rfl
  cases b1
  case true =>
    have HV : Hid (V = true) := Lib.hid (by rw [HV1.out]; rfl)
    go_wp2_with fail
    all_goals go_ret
    all_goals (rw [HV.out]; exact ⟨rfl, HE2.out⟩)
  have HV : Hid (V = g.2.any wdD) := Lib.hid (by rw [HV1.out]; rfl)
  have HCD := Lib.hid (conD57_x wdD g.2 (.slice oa g.2.length oc) S (w.heap.size + 1) w2 (HD.out.ext HE2.out) (by omega) (fun x hx xa xc W hW hs => wdD_x x xa xc _ S W (hW.heap HQ2.out (fun h => h)) hs))
  go_wp2_with fail
  refine HCD.out.mono ?_
  rintro e w3 ⟨rfl, h⟩
  have HE3 := Lib.hid (HE2.out.trans h)
  clear h
  go_wp2_with fail
  all_goals go_ret
  all_goals (rw [HV.out]; exact ⟨rfl, HE3.out⟩)

end Go.Proofs.YtjjaknmnhhfjeaaGreatDoor

/- What is put is there: pure. -/
namespace Go.Proofs.YtjjaknmnhhfjeaaGreatDoor
open Go.RowKit Go.Hw Go Go.Sort Go.Proofs Go.ChangeMaps
set_option linter.unusedVariables false
set_option linter.unusedSimpArgs false

open Tm
theorem wide_small {g : Sg} (h : wideG g = false) : g.1.length ≤ 1000000 ∧ g.2.length ≤ 1000000 ∧ ∀ d ∈ g.2, d.2.1.length ≤ 1000000 := by
  unfold wideG at h
  rw [Bool.or_eq_false_iff, Bool.or_eq_false_iff, Bool.or_eq_false_iff] at h
  obtain ⟨⟨⟨h1, h2⟩, _⟩, h4⟩ := h
  refine ⟨by have := of_decide_eq_false h1; omega, by have := of_decide_eq_false h2; omega, fun d hd => ?_⟩
  have h5 := List.any_eq_false.1 h4 d hd
  have h6 : wdD d = false := by simpa using h5
  unfold wdD at h6
  rw [Bool.or_eq_false_iff, Bool.or_eq_false_iff] at h6
  have := of_decide_eq_false h6.1.2
  omega

end Go.Proofs.YtjjaknmnhhfjeaaGreatDoor
