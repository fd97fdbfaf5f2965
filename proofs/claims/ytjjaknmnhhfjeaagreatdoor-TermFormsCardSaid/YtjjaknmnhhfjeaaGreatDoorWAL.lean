/- The texts Y17 Y18 Y19 Y20 Y22 Y23, one behind the other. -/
import Derived.Test.YtjjaknmnhhfjeaaGreatDoorWAH
import Derived.Test.YtjjaknmnhhfjeaaGreatDoorWAK
import Derived.Test.YtjjaknmnhhfjeaaGreatDoorWAG
/- Replace of the reference. -/
namespace Go.Proofs.YtjjaknmnhhfjeaaGreatDoor
open Go.RowKit Go.Hw Go Go.Sort Go.Proofs Go.ChangeMaps
set_option linter.unusedVariables false
set_option linter.unusedSimpArgs false

open Tm
end Go.Proofs.YtjjaknmnhhfjeaaGreatDoor

/- The law TermPaths. -/
namespace Go.Proofs.YtjjaknmnhhfjeaaGreatDoor
open Go.RowKit Go.Hw Go Go.Sort Go.Proofs Go.ChangeMaps
set_option linter.unusedVariables false
set_option linter.unusedSimpArgs false

open Tm
theorem tl1_row {S : Nat → Prop} {W : World} {n te : Nat} {fz : Nat × Nat} {a : Tm} {ua : Value} (h : W.heap[n]? = some (.cells #[.string a.name, .string a.sort, ua] te fz)) (hn : S n) (ha : TlR S W a.kids ua) : TlR S W [a] (.slice (some ⟨n, 0, none⟩) 1 1) := by
  refine .mk _ [ua] _ rfl ?_ (fun i hi => ?_)
  · refine SlR.mk' rfl rfl (Nat.le_refl _) (fun _ => hn) (fun j hj => ?_)
    have hj3 : j < 3 := hj
    rw [Nat.zero_add, cell_of_row W n j _ _ _ h]
    rcases (by omega : j = 0 ∨ j = 1 ∨ j = 2) with rfl | rfl | rfl <;> rfl
  · obtain rfl : i = 0 := by simpa using hi
    exact ha
end Go.Proofs.YtjjaknmnhhfjeaaGreatDoor

/- wide of law02. -/
namespace Go.Proofs.YtjjaknmnhhfjeaaGreatDoor
open Go.RowKit Go.Hw Go Go.Sort Go.Proofs Go.ChangeMaps
set_option linter.unusedVariables false
set_option linter.unusedSimpArgs false

open Tm
def lngB (s : By) : Bool := decide (100 < s.size)
def wdD (d : Dc) : Bool := lngB d.1 || lngB d.2.2 || decide (40 < d.2.1.length) || d.2.1.any lngB
def wideG (g : Sg) : Bool := decide (60 < g.1.length) || decide (120 < g.2.length) || g.1.any lngB || g.2.any wdD
set_option maxRecDepth 100000 in
set_option maxHeartbeats 2000000 in
theorem wdD_x (x : Dc) (xa : Option Addr) (xc q : Nat) (S : Nat → Prop) (w : World) (hq : w.heap[q]? = some (.cells #[.func (.func 54) #[] #[]] 92 (0, 0))) (hS : StrR S w (.slice xa x.2.1.length xc) x.2.1) :
    Calls Tryz.prog 57 #[.agg #[.string x.1, .slice xa x.2.1.length xc, .string x.2.2], .pointer (some ⟨q, 0, none⟩)] w fun e w' => e = .returned (.bool (wdD x)) ∧ Ext w w' := by
  obtain ⟨dn, da, dr⟩ := x
  dsimp only at hS ⊢
  have HE1 := Lib.hid ((Upd.refl (fun _ => False) w).alloc (.cells #[.string dn, .slice xa da.length xc, .string dr] 96))
  have HB1 := Lib.hid (alloc0 w (.cells #[.string dn, .slice xa da.length xc, .string dr] 96))
  have HQ1 := Lib.hid (allocOld hq (.cells #[.string dn, .slice xa da.length xc, .string dr] 96))
  have HS := Lib.hid hS
  have HV0 : Hid (wdD (dn, da, dr) = (lngB dn || lngB dr || decide (40 < da.length) || da.any lngB)) := Lib.hid rfl
  obtain ⟨V, hV⟩ : ∃ V, wdD (dn, da, dr) = V := ⟨_, rfl⟩
  rw [hV] at HV0 ⊢
  clear hq hS hV
  have d0 := cellRow HB1.out 0 (.string dn) rfl
  have d1 := cellRow HB1.out 1 (.slice xa da.length xc) rfl
  have d2 := cellRow HB1.out 2 (.string dr) rfl
  have q0 := cellRow HQ1.out 0 (.func (.func 54) #[] #[]) rfl
  go_enter Tryz.func57, Tryz.ntmps57
  go_wp2_with fail
  generalize w.alloc (.cells #[.string dn, .slice xa da.length xc, .string dr] 96) = w1 at *
  refine (long54_x dn w1).mono ?_
  rintro e w2 ⟨rfl, h⟩
  clear d0 d1 d2 q0
  have HE2 := Lib.hid (HE1.out.trans h)
  have HB2 := Lib.hid (h.heap HB1.out (fun h => h))
  have HQ2 := Lib.hid (h.heap HQ1.out (fun h => h))
  clear h HE1 HB1 HQ1
  have d0 := cellRow HB2.out 0 (.string dn) rfl
  have d1 := cellRow HB2.out 1 (.slice xa da.length xc) rfl
  have d2 := cellRow HB2.out 2 (.string dr) rfl
  have q0 := cellRow HQ2.out 0 (.func (.func 54) #[] #[]) rfl
  cases h1 : decide (100 < dn.size)
  case true =>
    have HV : Hid (V = true) := Lib.hid (by rw [HV0.out]; unfold lngB; rw [h1]; rfl)
    clear h1
    go_wp2_with fail
    all_goals go_ret
    all_goals (rw [HV.out]; exact ⟨rfl, HE2.out⟩)
  go_wp2_with fail
  refine (long54_x dr w2).mono ?_
  rintro e w3 ⟨rfl, h⟩
  clear d0 d1 d2 q0
  have HE3 := Lib.hid (HE2.out.trans h)
  have HB3 := Lib.hid (h.heap HB2.out (fun h => h))
  have HQ3 := Lib.hid (h.heap HQ2.out (fun h => h))
  clear h HE2 HB2 HQ2
  have d0 := cellRow HB3.out 0 (.string dn) rfl
  have d1 := cellRow HB3.out 1 (.slice xa da.length xc) rfl
  have d2 := cellRow HB3.out 2 (.string dr) rfl
  have q0 := cellRow HQ3.out 0 (.func (.func 54) #[] #[]) rfl
  cases h2 : decide (100 < dr.size)
  case true =>
    have HV : Hid (V = true) := Lib.hid (by rw [HV0.out]; unfold lngB; rw [h1, h2]; rfl)
    clear h1 h2
    go_wp2_with fail
    all_goals go_ret
    all_goals (rw [HV.out]; exact ⟨rfl, HE3.out⟩)
  by_cases hl : 40 < da.length
  · have z1 : (40 : Int) < (da.length : Int) := by omega
    have z2 : decide ((40 : Int) < (da.length : Int)) = true := decide_eq_true z1
    have HV : Hid (V = true) := Lib.hid (by rw [HV0.out]; unfold lngB; rw [h1, h2, decide_eq_true hl]; rfl)
    clear h1 h2
    go_wp2_with fail
    all_goals go_ret
    all_goals (rw [HV.out]; exact ⟨rfl, HE3.out⟩)
  have z1 : ¬ ((40 : Int) < (da.length : Int)) := by omega
  have z2 : decide ((40 : Int) < (da.length : Int)) = false := decide_eq_false z1
  have HV : Hid (V = da.any lngB) := Lib.hid (by rw [HV0.out]; show (decide (100 < dn.size) || decide (100 < dr.size) || decide (40 < da.length) || _) = _; rw [h1, h2, decide_eq_false hl]; rfl)
  clear h1 h2
  have HCN := Lib.hid (conS54_x lngB da (.slice xa da.length xc) S w3 (HS.out.kept HE3.out (fun _ _ h => h)) (by omega) (fun s hs W hW => long54_x s W))
  go_wp2_with fail
  refine HCN.out.mono ?_
  rintro e w4 ⟨rfl, h⟩
  have HE4 := Lib.hid (HE3.out.trans h)
  clear h
  go_wp2_with fail
  all_goals go_ret
  all_goals (rw [HV.out]; exact ⟨rfl, HE4.out⟩)
set_option maxRecDepth 100000 in
set_option maxHeartbeats 2000000 in
theorem wide_x (g : Sg) (v : Value) (S : Nat → Prop) (w : World) (hG : SgR S w g v) :
    Calls Tryz.prog 18 #[v] w fun e w' => e = .returned (.bool (wideG g)) ∧ Ext w w' := by
  obtain ⟨sa, sc, oa, oc, rfl, hS, hD⟩ := hG
  have HS := Lib.hid hS
  have HD := Lib.hid hD
  have HE1 := Lib.hid (((Upd.refl (fun _ => False) w).alloc (.cells #[.slice sa g.1.length sc, .slice oa g.2.length oc] 42)).alloc (.cells #[.func (.func 54) #[] #[]] 92))
  have HB1 := Lib.hid (allocOld (alloc0 w (.cells #[.slice sa g.1.length sc, .slice oa g.2.length oc] 42)) (.cells #[.func (.func 54) #[] #[]] 92))
  have HQ1 := Lib.hid (alloc_at (w.alloc (.cells #[.slice sa g.1.length sc, .slice oa g.2.length oc] 42)) (.cells #[.func (.func 54) #[] #[]] 92) (n := w.heap.size + 1) (by simp))
  have HV0 : Hid (wideG g = (decide (60 < g.1.length) || decide (120 < g.2.length) || g.1.any lngB || g.2.any wdD)) := Lib.hid rfl
  obtain ⟨V, hV⟩ : ∃ V, wideG g = V := ⟨_, rfl⟩
  rw [hV] at HV0 ⊢
  clear hS hD hV
  have c0 := cellRow HB1.out 0 (.slice sa g.1.length sc) rfl
  have c1 := cellRow HB1.out 1 (.slice oa g.2.length oc) rfl
  have q0 := cellRow HQ1.out 0 (.func (.func 54) #[] #[]) rfl
  go_enter Tryz.func18, Tryz.ntmps18
  go_upto_region 2 with fail
  generalize (w.alloc (.cells #[.slice sa g.1.length sc, .slice oa g.2.length oc] 42)).alloc (.cells #[.func (.func 54) #[] #[]] 92) = w1 at *
  by_cases hl : 60 < g.1.length
  · have z1 : (60 : Int) < (g.1.length : Int) := by omega
    have z2 : decide ((60 : Int) < (g.1.length : Int)) = true := decide_eq_true z1
    have HV : Hid (V = true) := Lib.hid (by rw [HV0.out, decide_eq_true hl]; rfl)
    go_wp2_with fail
    all_goals go_ret
    all_goals (rw [HV.out]; exact ⟨rfl, HE1.out⟩)
  have z1 : ¬ ((60 : Int) < (g.1.length : Int)) := by omega
  have z2 : decide ((60 : Int) < (g.1.length : Int)) = false := decide_eq_false z1
  by_cases hm : 120 < g.2.length
  · have z3 : (120 : Int) < (g.2.length : Int) := by omega
    have z4 : decide ((120 : Int) < (g.2.length : Int)) = true := decide_eq_true z3
    have HV : Hid (V = true) := Lib.hid (by rw [HV0.out, decide_eq_true hm, Bool.or_true]; rfl)
    go_wp2_with fail
    all_goals go_ret
    all_goals (rw [HV.out]; exact ⟨rfl, HE1.out⟩)
  have z3 : ¬ ((120 : Int) < (g.2.length : Int)) := by omega
  have z4 : decide ((120 : Int) < (g.2.length : Int)) = false := decide_eq_false z3
  have HV1 : Hid (V = (g.1.any lngB || g.2.any wdD)) := Lib.hid (by rw [HV0.out, decide_eq_false hl, decide_eq_false hm]; rfl)
  have HCN := Lib.hid (conS54_x lngB g.1 (.slice sa g.1.length sc) S w1 (HS.out.kept HE1.out (fun _ _ h => h)) (by omega) (fun s hs W hW => long54_x s W))
  obtain ⟨b1, hb1⟩ : ∃ b, g.1.any lngB = b := ⟨_, rfl⟩
  rw [hb1] at HV1 HCN
  clear hb1 HV0
  go_wp2_with fail
  refine HCN.out.mono ?_
  rintro e w2 ⟨rfl, h⟩
  clear c0 c1 q0 HCN
  have HE2 := Lib.hid (HE1.out.trans h)
  have HB2 := Lib.hid (h.heap HB1.out (fun h => h))
  have HQ2 := Lib.hid (h.heap HQ1.out (fun h => h))
  clear h HE1 HB1 HQ1
  have c0 := cellRow HB2.out 0 (.slice sa g.1.length sc) rfl
  have c1 := cellRow HB2.out 1 (.slice oa g.2.length oc) rfl
  have q0 := cellRow HQ2.out 0 (.func (.func 54) #[] #[]) rfl
  cases b1
  case true =>
    have HV : Hid (V = true) := Lib.hid (by rw [HV1.out]; rfl)
    go_wp2_with fail
    all_goals go_ret
    all_goals (rw [HV.out]; exact ⟨rfl, HE2.out⟩)
  have HV : Hid (V = g.2.any wdD) := Lib.hid (by rw [HV1.out]; rfl)
  have HCD := Lib.hid (conD57_x wdD g.2 (.slice oa g.2.length oc) S (w.heap.size + 1) w2 (HD.out.ext HE2.out) (by omega) (fun x hx xa xc W hW hs => wdD_x x xa xc _ S W (hW.heap HQ2.out (fun h => h)) hs))
  go_wp2_with fail
  refine HCD.out.mono ?_
  rintro e w3 ⟨rfl, h⟩
  have HE3 := Lib.hid (HE2.out.trans h)
  clear h
  go_wp2_with fail
  all_goals go_ret
  all_goals (rw [HV.out]; exact ⟨rfl, HE3.out⟩)

end Go.Proofs.YtjjaknmnhhfjeaaGreatDoor

/- What is put is there: pure. -/
namespace Go.Proofs.YtjjaknmnhhfjeaaGreatDoor
open Go.RowKit Go.Hw Go Go.Sort Go.Proofs Go.ChangeMaps
set_option linter.unusedVariables false
set_option linter.unusedSimpArgs false

open Tm
theorem wide_small {g : Sg} (h : wideG g = false) : g.1.length ≤ 1000000 ∧ g.2.length ≤ 1000000 ∧ ∀ d ∈ g.2, d.2.1.length ≤ 1000000 := by
  unfold wideG at h
  rw [Bool.or_eq_false_iff, Bool.or_eq_false_iff, Bool.or_eq_false_iff] at h
  obtain ⟨⟨⟨h1, h2⟩, _⟩, h4⟩ := h
  refine ⟨by have := of_decide_eq_false h1; omega, by have := of_decide_eq_false h2; omega, fun d hd => ?_⟩
  have h5 := List.any_eq_false.1 h4 d hd
  have h6 : wdD d = false := by simpa using h5
  unfold wdD at h6
  rw [Bool.or_eq_false_iff, Bool.or_eq_false_iff] at h6
  have := of_decide_eq_false h6.1.2
  omega

end Go.Proofs.YtjjaknmnhhfjeaaGreatDoor

/- slices.Equal over fields. -/
namespace Go.Proofs.YtjjaknmnhhfjeaaGreatDoor
open Go.RowKit Go.Hw Go Go.Sort Go.Proofs Go.ChangeMaps
set_option linter.unusedVariables false
set_option linter.unusedSimpArgs false

open Tm
set_option maxRecDepth 100000 in
set_option maxHeartbeats 2000000 in
theorem eqF_x (l : List Vd) (a b : Option Addr) (c d : Nat) (S T : Nat → Prop) (w : World) (hA : FiR S w (.slice a l.length c) l) (hB : FiR T w (.slice b l.length d) l) (hl : l.length ≤ 1000000) :
    Calls Tryz.prog 40 #[.slice a l.length c, .slice b l.length d] w fun e w' => e = .returned (.bool true) ∧ Ext w w' := by
  have HA := Lib.hid hA
  have HB := Lib.hid hB
  clear hA hB
  go_enter Tryz.func40, Tryz.ntmps40
  go_wp2_with fail
  go_loopg [13] l.length (fun gk iv wr => ∃ k : Nat, iv = .int .i64 (k : Int) ∧ gk = l.length - k ∧ k ≤ l.length ∧ Hid (Ext w wr))
  case atStart => exact ⟨0, rfl, rfl, Nat.zero_le _, Lib.hid (Upd.refl _ _)⟩
  case round =>
    obtain ⟨k, rfl, rfl, hk, HE⟩ := hrel
    by_cases hlt : k < l.length
    · obtain ⟨g, off, hga, hat⟩ := FiR.at_ (FiR.ext HA.out HE.out) (by omega)
      obtain ⟨g2, off2, hgb, hat2⟩ := FiR.at_ (FiR.ext HB.out HE.out) (by omega)
      subst hga hgb
      obtain ⟨q0, q1⟩ := hat k hlt
      obtain ⟨r0, r1⟩ := hat2 k hlt
      have z0 : (0 : Int) ≤ (k : Int) := by omega
      have z1 : (k : Int) < (l.length : Int) := by omega
      have z2 : decide ((k : Int) < (l.length : Int)) = true := decide_eq_true z1
      have z2' : decide (k < l.length) = true := decide_eq_true hlt
      obtain ⟨x, hx⟩ : ∃ x, vg l k = x := ⟨_, rfl⟩
      rw [hx] at q0 q1 r0 r1
      obtain ⟨x1, x2⟩ := x
      dsimp only at q0 q1 r0 r1
      clear hat hat2 hx
      go_wp2_with fail
      go_quiet (fail)
      have HED := Lib.hid (HE.out.trans ((Upd.refl (fun _ => False) wr).drewN' nq))
      clear HE q0 q1 r0 r1
      generalize wr.drewN nq = wd at *
      go_wp2_with fail
      go_roundg (l.length - (k + 1))
      case measure => omega
      case rel => exact ⟨k + 1, by go_num, rfl, by omega, HED⟩
    · obtain rfl : k = l.length := by omega
      have z2 : decide ((l.length : Int) < (l.length : Int)) = false := decide_eq_false (by omega)
      go_wp2_with fail
      go_ret
      exact ⟨rfl, HE.out⟩

end Go.Proofs.YtjjaknmnhhfjeaaGreatDoor

/- The law TermForms. -/
namespace Go.Proofs.YtjjaknmnhhfjeaaGreatDoor
open Go.RowKit Go.Hw Go Go.Sort Go.Proofs Go.ChangeMaps
set_option linter.unusedVariables false
set_option linter.unusedSimpArgs false

open Tm
def sA : Value → Option Addr
  | .slice a _ _ => a
  | _ => none
def sC : Value → Nat
  | .slice _ _ c => c
  | _ => 0
def annFi (L : List Vd) : Ann Value := ⟨fun x => .slice (sA x) L.length (sC x), fun x W => FiR (fun _ => True) W (.slice (sA x) L.length (sC x)) L, fun x W W' h hE => FiR.ext h hE⟩
set_option maxRecDepth 100000 in
set_option maxHeartbeats 8000000 in
theorem forms_law (g : Sg) (t : Tm) (gv tv : Value) (w : World) (hG : SgR (fun k => k < w.heap.size) w g gv) (hT : TmR (fun k => k < w.heap.size) w t tv) (htab : AscT w) :
    Calls Tryz.prog 8 #[gv, tv] w fun e w' => e = .returned (.bool true) ∧ Ext w w' := by
  have HSG := Lib.hid hG
  obtain ⟨sa, sc, oa, oc, rfl, _, _⟩ := hG
  obtain ⟨a, cap, rfl, hT⟩ := hT
  have HTS := Lib.hid hT
  have HTAB := Lib.hid htab
  have HAW := Lib.hid (fun W (hW : Ext w W) => awake_x W (asc_ext htab hW))
  have HE1 := Lib.hid (((Upd.refl (fun _ => False) w).alloc (.cells #[.slice sa g.1.length sc, .slice oa g.2.length oc] 42)).alloc (.cells #[.string t.name, .string t.sort, .slice a t.kids.length cap] 24))
  have HG1 := Lib.hid (allocOld (alloc0 w (.cells #[.slice sa g.1.length sc, .slice oa g.2.length oc] 42)) (.cells #[.string t.name, .string t.sort, .slice a t.kids.length cap] 24))
  have HT1 := Lib.hid (alloc_at (w.alloc (.cells #[.slice sa g.1.length sc, .slice oa g.2.length oc] 42)) (.cells #[.string t.name, .string t.sort, .slice a t.kids.length cap] 24) (n := w.heap.size + 1) (by simp))
  dsimp only [tV]
  clear hT htab
  have g0_ := cellRow HG1.out 0 (.slice sa g.1.length sc) rfl
  have g1_ := cellRow HG1.out 1 (.slice oa g.2.length oc) rfl
  go_enter Tryz.func8, Tryz.ntmps8
  go_wp2_with fail
  generalize (w.alloc (.cells #[.slice sa g.1.length sc, .slice oa g.2.length oc] 42)).alloc (.cells #[.string t.name, .string t.sort, .slice a t.kids.length cap] 24) = w1 at *
  refine (HAW.out _ HE1.out).mono ?_
  rintro e w2 ⟨rfl, h⟩
  clear g0_ g1_
  have HE2 := Lib.hid (HE1.out.trans h)
  have HG2 := Lib.hid (h.heap HG1.out (fun h => h))
  have HT2 := Lib.hid (h.heap HT1.out (fun h => h))
  clear h HE1 HG1 HT1 
  clear HAW
  have g0_ := cellRow HG2.out 0 (.slice sa g.1.length sc) rfl
  have g1_ := cellRow HG2.out 1 (.slice oa g.2.length oc) rfl
  have HCC := Lib.hid (wide_x g (.agg #[.slice sa g.1.length sc, .slice oa g.2.length oc]) (fun k => k < w.heap.size) w2 (HSG.out.ext HE2.out))
  go_wp2_with fail
  refine HCC.out.mono ?_
  clear HCC
  rintro e w3 ⟨rfl, h⟩
  clear g0_ g1_
  have HE3 := Lib.hid (HE2.out.trans h)
  have HG3 := Lib.hid (h.heap HG2.out (fun h => h))
  have HT3 := Lib.hid (h.heap HT2.out (fun h => h))
  clear h HE2 HG2 HT2 
  cases hwd : wideG g
  case true =>
    clear hwd
    go_wp2_with fail
    refine bodyPost_ret (v := .bool true) (by simp [results, Tryz.results8, go_sem]) rfl ?_
    exact ⟨rfl, HE3.out⟩
  case false =>
    obtain ⟨hl1, hl2, hl3⟩ := wide_small hwd
    have HL3 := Lib.hid hl3
    clear hwd hl3
    have t0_ := cellRow HT3.out 0 (.string t.name) rfl
    have t1_ := cellRow HT3.out 1 (.string t.sort) rfl
    have t2_ := cellRow HT3.out 2 (.slice a t.kids.length cap) rfl
    have HC := Lib.hid (alloc0 w3 (.cells #[.string t.name, .string t.sort, .slice a t.kids.length cap] 24))
    have hz := (Upd.refl (fun _ => False) w3).alloc (.cells #[.string t.name, .string t.sort, .slice a t.kids.length cap] 24)
    have HE3a := Lib.hid (HE3.out.trans hz)
    have HG3a := Lib.hid (hz.heap HG3.out (fun h => h))
    have HT3a := Lib.hid (hz.heap HT3.out (fun h => h))
    clear hz HE3 HG3 HT3 
    have HCC := Lib.hid (big_x [t] (.slice (some ⟨w3.heap.size, 0, none⟩) 1 1) (fun k => k < (w3.alloc (.cells #[.string t.name, .string t.sort, .slice a t.kids.length cap] 24)).heap.size) (w3.alloc (.cells #[.string t.name, .string t.sort, .slice a t.kids.length cap] 24)) (tl1_row HC.out (by simp) ((HTS.out.ext HE3a.out).weaken (fun k hk => Nat.lt_of_lt_of_le hk HE3a.out.size))) (fun k hk => hk) (by simp))
    go_wp2_with fail
    refine HCC.out.mono ?_
    clear HCC
    rintro e w4 ⟨rfl, h⟩
    clear t0_ t1_ t2_
    have HE4 := Lib.hid (HE3a.out.trans h)
    have HG4 := Lib.hid (h.heap HG3a.out (fun h => h))
    have HT4 := Lib.hid (h.heap HT3a.out (fun h => h))
    clear h HE3a HG3a HT3a 
    clear HC
    cases hbg : bigF [t]
    case true =>
      clear hbg
      go_wp2_with fail
      refine bodyPost_ret (v := .bool true) (by simp [results, Tryz.results8, go_sem]) rfl ?_
      exact ⟨rfl, HE4.out⟩
    case false =>
      have hsz := big_small hbg
      clear hbg
      have HSR := Lib.hid (fun W (hW : Ext w W) => psort_x g t (.agg #[.slice sa g.1.length sc, .slice oa g.2.length oc]) (.agg #[.string t.name, .string t.sort, .slice a t.kids.length cap]) (fun k => k < w.heap.size) W (HSG.out.ext hW) (fun k hk => Nat.lt_of_lt_of_le hk hW.size) ((TmR.of (t := t) (HTS.out.ext hW)).weaken (fun k hk => Nat.lt_of_lt_of_le hk (hW).size)) (asc_ext HTAB.out hW) (by omega) hl1 hl2 HL3.out)
      have HRS := Lib.hid (fun W (hW : Ext w W) => rsort_x g t (.agg #[.slice sa g.1.length sc, .slice oa g.2.length oc]) (.agg #[.string t.name, .string t.sort, .slice a t.kids.length cap]) _ _ W (HSG.out.ext hW) (TmR.of (t := t) (HTS.out.ext hW)) hl1 hl2)
      have HVS := Lib.hid (fun W (hW : Ext w W) => pvsig_x g (.agg #[.slice sa g.1.length sc, .slice oa g.2.length oc]) _ W (HSG.out.ext hW) (asc_ext HTAB.out hW) hl1 hl2 HL3.out)
      have HRV := Lib.hid (fun W (hW : Ext w W) => vsig_x g (.agg #[.slice sa g.1.length sc, .slice oa g.2.length oc]) _ W (HSG.out.ext hW) hl1 hl2)
      have HVL := Lib.hid (fun W (hW : Ext w W) => pvalid_x g t (.agg #[.slice sa g.1.length sc, .slice oa g.2.length oc]) (.agg #[.string t.name, .string t.sort, .slice a t.kids.length cap]) (fun k => k < w.heap.size) W (HSG.out.ext hW) (fun k hk => Nat.lt_of_lt_of_le hk hW.size) ((TmR.of (t := t) (HTS.out.ext hW)).weaken (fun k hk => Nat.lt_of_lt_of_le hk (hW).size)) (asc_ext HTAB.out hW) (by omega) hl1 hl2 HL3.out)
      have HRL := Lib.hid (fun W (hW : Ext w W) => rvalid_x g t (.agg #[.slice sa g.1.length sc, .slice oa g.2.length oc]) (.agg #[.string t.name, .string t.sort, .slice a t.kids.length cap]) _ _ W (HSG.out.ext hW) (TmR.of (t := t) (HTS.out.ext hW)) hl1 hl2)
      obtain ⟨⟨ts, te⟩, hst⟩ : ∃ y, sortF g t = y := ⟨_, rfl⟩
      rw [hst] at HSR HRS
      obtain ⟨vs, hvs⟩ : ∃ y, vsgB nmB g = y := ⟨_, rfl⟩
      rw [hvs] at HVS HRV
      obtain ⟨vd, hvd⟩ : ∃ y, validF g t = y := ⟨_, rfl⟩
      rw [hvd] at HVL HRL
      clear hst hvs hvd
      dsimp only at HSR HRS
      have g0_ := cellRow HG4.out 0 (.slice sa g.1.length sc) rfl
      have g1_ := cellRow HG4.out 1 (.slice oa g.2.length oc) rfl
      have t0_ := cellRow HT4.out 0 (.string t.name) rfl
      have t1_ := cellRow HT4.out 1 (.string t.sort) rfl
      have t2_ := cellRow HT4.out 2 (.slice a t.kids.length cap) rfl
      have HCC := Lib.hid (HSR.out w4 HE4.out)
      go_wp2_with fail
      refine HCC.out.mono ?_
      clear HCC
      rintro e w5 ⟨rfl, h⟩
      clear g0_ g1_ t0_ t1_ t2_
      have HE5 := Lib.hid (HE4.out.trans h)
      have HG5 := Lib.hid (h.heap HG4.out (fun h => h))
      have HT5 := Lib.hid (h.heap HT4.out (fun h => h))
      clear h HE4 HG4 HT4 
      have g0_ := cellRow HG5.out 0 (.slice sa g.1.length sc) rfl
      have g1_ := cellRow HG5.out 1 (.slice oa g.2.length oc) rfl
      have t0_ := cellRow HT5.out 0 (.string t.name) rfl
      have t1_ := cellRow HT5.out 1 (.string t.sort) rfl
      have t2_ := cellRow HT5.out 2 (.slice a t.kids.length cap) rfl
      have HCC := Lib.hid (HRS.out w5 HE5.out)
      go_wp2_with fail
      refine HCC.out.mono ?_
      clear HCC
      rintro e w6 ⟨rfl, h⟩
      clear g0_ g1_ t0_ t1_ t2_
      have HE6 := Lib.hid (HE5.out.trans h)
      have HG6 := Lib.hid (h.heap HG5.out (fun h => h))
      have HT6 := Lib.hid (h.heap HT5.out (fun h => h))
      clear h HE5 HG5 HT5 
      clear HSR HRS
      go_upto_region 7 with fail
      have Q0 := fun x : XW w6 => cellRow (x.ext.heap HG6.out (fun h => h)) 0 (.slice sa g.1.length sc) rfl
      have Q1 := fun x : XW w6 => cellRow (x.ext.heap HG6.out (fun h => h)) 1 (.slice oa g.2.length oc) rfl
      have Q2 := fun x : XW w6 => cellRow (x.ext.heap HT6.out (fun h => h)) 0 (.string t.name) rfl
      have Q3 := fun x : XW w6 => cellRow (x.ext.heap HT6.out (fun h => h)) 1 (.string t.sort) rfl
      have Q4 := fun x : XW w6 => cellRow (x.ext.heap HT6.out (fun h => h)) 2 (.slice a t.kids.length cap) rfl
      have HEX := HE6
      refine wp_region_par (α := Value) 24 [] [[], [0], [], [0, 1, 2], [0, 1, 2, 3], [0, 1, 2, 3, 4], [0, 1, 2, 3, 4, 5], [0, 1, 2, 3, 4, 5], [0, 1, 2, 3, 4, 5, 6, 7], [0, 1, 2, 3, 4, 5], [0, 1, 2, 3, 4, 5], [0, 1, 2, 3, 4, 5, 6, 7, 8, 9, 10], [0, 1, 2, 3, 4, 5, 6, 7, 8, 9, 10, 11], [0, 1, 2, 3, 4, 5, 6, 7, 8, 9, 10, 11, 12], [0, 1, 2, 3, 4, 5, 6, 7, 8, 9, 10, 11, 12, 13], [0, 1, 2, 3, 4, 5, 6, 7, 8, 9, 10, 11, 12, 13, 14], [0, 1, 2, 3, 4, 5, 6, 7, 8, 9, 10, 11, 12, 13, 14], [0, 1, 2, 3, 4, 5, 6, 7, 8, 9, 10, 11, 12, 13, 14, 15, 16], [0, 1, 2, 3, 4, 5, 6, 7, 8, 9, 10, 11, 12, 13, 14, 15, 16, 17], [0, 1, 2, 3, 4, 5, 6, 7, 8, 9, 10, 11, 12, 13, 14, 15, 16, 17, 18], [0, 1, 2, 3, 4, 5, 6, 7, 8, 9, 10, 11, 12, 13, 14, 15, 16, 17, 18, 19], [0, 1, 2, 3, 4, 5, 6, 7, 8, 9, 10, 11, 12, 13, 14, 15, 16, 17, 18, 19], [0, 1, 2, 3, 4, 5, 6, 7, 8, 9, 10, 11, 12, 13, 14, 15, 16, 17, 18, 19, 20, 21], [0, 1, 2, 3, 4, 5, 6, 7, 8, 9, 10, 11, 12, 13, 14, 15, 16, 17, 18, 19, 20, 21, 22]]
        [none, some (annVal (.bool vs)), none, some (annVal (.bool vs)), none, none, none, none, some (annVal (.bool vd)), none, none, some (annVal (.bool vd)), none, none, none, none, none, none, none, none, none, none, none, none]
        [false, true, false, true, false, false, false, false, true, false, false, true, false, false, false, false, false, false, false, false, false, false, false, false] (by kernel_rfl) (by kernel_rfl) rfl (fun _ _ d _ _ h => by cases d <;> exact h) ?_
      simp only [List.take_succ_cons, List.take_zero, pickO]
      (refine can_pure0 rfl (fun K hK => ?_); go_simp; refine hK _ ?_; clear hK K)
      refine can_mem _ rfl (by go_simp) (fun W hW hG K hK => ?_) (fun K v1 hK => ?_)
      · have hE := HEX.out.trans hW
        go_simp
        refine (HVS.out W hE).mono ?_
        rintro e w' ⟨rfl, h⟩
        exact hK default w' h trivial
      refine hK _ ?_; clear hK K
      dsimp only [annVal]
      (refine can_pure0 rfl (fun K hK => ?_); go_simp; refine hK _ ?_; clear hK K)
      refine can_mem _ rfl (by go_simp) (fun W hW hG K hK => ?_) (fun K v1 hK => ?_)
      · have hE := HEX.out.trans hW
        go_simp
        refine (HRV.out W hE).mono ?_
        rintro e w' ⟨rfl, h⟩
        exact hK default w' h trivial
      refine hK _ ?_; clear hK K
      dsimp only [annVal]
      iterate 4 (refine can_pure0 rfl (fun K hK => ?_); go_simp; refine hK _ ?_; clear hK K)
      refine can_mem _ rfl (by go_simp) (fun W hW hG K hK => ?_) (fun K v1 hK => ?_)
      · have hE := HEX.out.trans hW
        go_simp
        refine (HVL.out W hE).mono ?_
        rintro e w' ⟨rfl, h⟩
        exact hK default w' h trivial
      refine hK _ ?_; clear hK K
      dsimp only [annVal]
      iterate 2 (refine can_pure0 rfl (fun K hK => ?_); go_simp; refine hK _ ?_; clear hK K)
      refine can_mem _ rfl (by go_simp) (fun W hW hG K hK => ?_) (fun K v1 hK => ?_)
      · have hE := HEX.out.trans hW
        go_simp
        refine (HRL.out W hE).mono ?_
        rintro e w' ⟨rfl, h⟩
        exact hK default w' h trivial
      refine hK _ ?_; clear hK K
      dsimp only [annVal]
      iterate 12 (refine can_pure0 rfl (fun K hK => ?_); go_simp; refine hK _ ?_; clear hK K)
      refine can_end (fun w7 h hG => ?_)
      clear hG Q0 Q1 Q2 Q3 Q4 HEX HVS HRV HVL HRL
      have HE7 := Lib.hid (HE6.out.trans h)
      have HG7 := Lib.hid (h.heap HG6.out (fun h => h))
      have HT7 := Lib.hid (h.heap HT6.out (fun h => h))
      clear h HE6 HG6 HT6 
      simp only [wpMix]
      have t0_ := cellRow HT7.out 0 (.string t.name) rfl
      have t1_ := cellRow HT7.out 1 (.string t.sort) rfl
      have t2_ := cellRow HT7.out 2 (.slice a t.kids.length cap) rfl
      have HVR := Lib.hid (tvars_x t (.agg #[.string t.name, .string t.sort, .slice a t.kids.length cap]) w7 (asc_ext HTAB.out HE7.out) ((TmR.of (t := t) (HTS.out.ext HE7.out)).weaken (fun k hk => Nat.lt_of_lt_of_le hk (HE7.out).size)) (by omega))
      obtain ⟨⟨vl, ve⟩, hvl⟩ : ∃ y, varsF t = y := ⟨_, rfl⟩
      rw [hvl] at HVR
      have HV0 : Hid (wf nmB t = false → vl = [] ∧ ve = 1 ∧ szF t = 0 ∧ dpF t = 0) := Lib.hid (fun h => by
        unfold varsF at hvl
        unfold szF dpF
        rw [h] at hvl ⊢
        injection hvl with h1 h2
        exact ⟨h1.symm, h2.symm, rfl, rfl⟩)
      have HV1 : Hid (wf nmB t = true → vl = varsT t ∧ ve = 0 ∧ szF t = t.size ∧ dpF t = t.depth) := Lib.hid (fun h => by
        unfold varsF at hvl
        unfold szF dpF
        rw [h] at hvl ⊢
        injection hvl with h1 h2
        exact ⟨h1.symm, h2.symm, rfl, rfl⟩)
      clear hvl
      dsimp only at HVR
      go_wp2_with fail
      refine HVR.out.mono ?_
      rintro e w8 ⟨r, rfl, hF8, h⟩
      obtain ⟨la, lc, hr⟩ := hF8.shape
      subst hr
      have HF8 := Lib.hid hF8
      clear hF8
      clear t0_ t1_ t2_
      have HE8 := Lib.hid (HE7.out.trans h)
      have HG8 := Lib.hid (h.heap HG7.out (fun h => h))
      have HT8 := Lib.hid (h.heap HT7.out (fun h => h))
      clear h HE7 HG7 HT7 
      clear HVR
      have HFM := Lib.hid (rformed_x t (.agg #[.string t.name, .string t.sort, .slice a t.kids.length cap]) _ w8 (TmR.of (HTS.out.ext HE8.out)))
      have HSZ := Lib.hid (fun W (hW : Ext w W) => Size_x t (.agg #[.string t.name, .string t.sort, .slice a t.kids.length cap]) W (asc_ext HTAB.out hW) ((TmR.of (t := t) (HTS.out.ext hW)).weaken (fun k hk => Nat.lt_of_lt_of_le hk (hW).size)) (by omega))
      have HDP := Lib.hid (fun W (hW : Ext w W) => Depth_x t (.agg #[.string t.name, .string t.sort, .slice a t.kids.length cap]) W (asc_ext HTAB.out hW) ((TmR.of (t := t) (HTS.out.ext hW)).weaken (fun k hk => Nat.lt_of_lt_of_le hk (hW).size)) (by omega))
      obtain ⟨WT, hWT⟩ : ∃ b, wf nmB t = b := ⟨_, rfl⟩
      rw [hWT] at HFM HV0 HV1
      have HWT := Lib.hid hWT
      clear hWT
      have t0_ := cellRow HT8.out 0 (.string t.name) rfl
      have t1_ := cellRow HT8.out 1 (.string t.sort) rfl
      have t2_ := cellRow HT8.out 2 (.slice a t.kids.length cap) rfl
      go_wp2_with fail
      refine HFM.out.mono ?_
      rintro e w9 ⟨rfl, h⟩
      have HF9 := Lib.hid (FiR.ext HF8.out h)
      clear t0_ t1_ t2_
      have HE9 := Lib.hid (HE8.out.trans h)
      have HG9 := Lib.hid (h.heap HG8.out (fun h => h))
      have HT9 := Lib.hid (h.heap HT8.out (fun h => h))
      clear h HE8 HG8 HT8 
      clear HFM HF8
      cases WT
      · obtain ⟨hv, he, hs, hd⟩ := HV0.out (by simp)
        subst hv he
        rw [hs] at HSZ
        rw [hd] at HDP
        clear HV1 HV0
        have t0_ := cellRow HT9.out 0 (.string t.name) rfl
        have t1_ := cellRow HT9.out 1 (.string t.sort) rfl
        have t2_ := cellRow HT9.out 2 (.slice a t.kids.length cap) rfl
        have HCC := Lib.hid (HSZ.out w9 HE9.out)
        go_wp2_with fail
        refine HCC.out.mono ?_
        clear HCC
        rintro e w10 ⟨rfl, h⟩
        clear t0_ t1_ t2_
        have HE10 := Lib.hid (HE9.out.trans h)
        have HG10 := Lib.hid (h.heap HG9.out (fun h => h))
        have HT10 := Lib.hid (h.heap HT9.out (fun h => h))
        clear h HE9 HG9 HT9 
        have t0_ := cellRow HT10.out 0 (.string t.name) rfl
        have t1_ := cellRow HT10.out 1 (.string t.sort) rfl
        have t2_ := cellRow HT10.out 2 (.slice a t.kids.length cap) rfl
        have HCC := Lib.hid (HDP.out w10 HE10.out)
        go_wp2_with fail
        refine HCC.out.mono ?_
        clear HCC
        rintro e w11 ⟨rfl, h⟩
        have HE11 := Lib.hid (HE10.out.trans h)
        clear h
        go_wp2_with fail
        refine bodyPost_ret (v := .bool true) (by simp [results, Tryz.results8, go_sem]) rfl ?_
        exact ⟨rfl, HE11.out⟩
      obtain ⟨hv, he, hs, hd⟩ := HV1.out (by simp)
      subst hv he
      rw [hs] at HSZ
      rw [hd] at HDP
      clear HV1 HV0
      have hvn : (varsT t).length ≤ 1000000 := by
        have h1 := vFold_len (vl (sbts t)) []
        have h2 := vl_len t
        have h3 : (varsT t).length ≤ (vl (sbts t)).length := by show (vFold [] (vl (sbts t))).1.length ≤ _; simpa using h1
        omega
      obtain ⟨L, hL⟩ : ∃ L, varsT t = L := ⟨_, rfl⟩
      have HRV := Lib.hid (fun W (hW : Ext w W) => rvars_x t (.agg #[.string t.name, .string t.sort, .slice a t.kids.length cap]) _ W (TmR.of (t := t) (HTS.out.ext hW)) HWT.out)
      have HRS := Lib.hid (fun W (hW : Ext w W) => rSize_x t (.agg #[.string t.name, .string t.sort, .slice a t.kids.length cap]) _ W (TmR.of (t := t) (HTS.out.ext hW)) (by omega))
      have HRD := Lib.hid (fun W (hW : Ext w W) => rDepth_x t (.agg #[.string t.name, .string t.sort, .slice a t.kids.length cap]) _ W (TmR.of (t := t) (HTS.out.ext hW)) (by omega))
      rw [hL] at HRV HF9 hvn ⊢
      clear hL
      obtain ⟨sz, hsz1⟩ : ∃ n, t.size = n := ⟨_, rfl⟩
      rw [hsz1] at HSZ HRS
      obtain ⟨dp, hdp1⟩ : ∃ n, t.depth = n := ⟨_, rfl⟩
      rw [hdp1] at HDP HRD
      clear hsz1 hdp1
      go_upto_region 12 with fail
      have Q2 := fun x : XW w9 => cellRow (x.ext.heap HT9.out (fun h => h)) 0 (.string t.name) rfl
      have Q3 := fun x : XW w9 => cellRow (x.ext.heap HT9.out (fun h => h)) 1 (.string t.sort) rfl
      have Q4 := fun x : XW w9 => cellRow (x.ext.heap HT9.out (fun h => h)) 2 (.slice a t.kids.length cap) rfl
      have HEX := HE9
      refine wp_region_par (α := Value) 23 [] [[], [0], [0, 1], [0, 1, 2], [0, 1, 2], [0, 1, 2, 4], [0, 1, 2, 3, 4, 5], [0, 1, 2, 3, 4, 5, 6], [0, 1, 2, 3, 4, 5, 6, 7], [0, 1, 2, 3, 4, 5, 6, 7, 8], [0, 1, 2, 3, 4, 5, 6, 7, 8, 9], [0, 1, 2, 3, 4, 5, 6, 7, 8], [0, 1, 2, 3, 4, 5, 6, 7, 8, 9, 10, 11], [0, 1, 2, 3, 4, 5, 6, 7, 8, 9, 10, 11, 12], [0, 1, 2, 3, 4, 5, 6, 7, 8, 9, 10, 11, 12, 13], [0, 1, 2, 3, 4, 5, 6, 7, 8, 9, 10, 11, 12, 13, 14], [0, 1, 2, 3, 4, 5, 6, 7, 8, 9, 10, 11, 12, 13, 14, 15], [0, 1, 2, 3, 4, 5, 6, 7, 8, 9, 10, 11, 12, 13, 14, 15, 16], [0, 1, 2, 3, 4, 5, 6, 7, 8, 9, 10, 11, 12, 13, 14, 15], [0, 1, 2, 3, 4, 5, 6, 7, 8, 9, 10, 11, 12, 13, 14, 15, 16, 17, 18], [0, 1, 2, 3, 4, 5, 6, 7, 8, 9, 10, 11, 12, 13, 14, 15, 16, 17, 18, 19], [0, 1, 2, 3, 4, 5, 6, 7, 8, 9, 10, 11, 12, 13, 14, 15, 16, 17, 18, 19, 20], [0, 1, 2, 3, 4, 5, 6, 7, 8, 9, 10, 11, 12, 13, 14, 15, 16, 17, 18, 19, 20, 21]]
        [none, none, none, none, none, some (annFi L), some (annVal (.bool true)), none, none, none, some (annVal (.int .i64 (sz : Int))), none, some (annVal (.int .i64 (sz : Int))), none, none, none, none, some (annVal (.int .i64 (dp : Int))), none, some (annVal (.int .i64 (dp : Int))), none, none, none]
        [false, false, false, false, false, true, true, false, false, false, true, false, true, false, false, false, false, true, false, true, false, false, false] (by kernel_rfl) (by kernel_rfl) rfl (fun _ _ d _ _ h => by cases d <;> exact h) ?_
      simp only [List.take_succ_cons, List.take_zero, pickO]
      iterate 5 (refine can_pure0 rfl (fun K hK => ?_); go_simp; refine hK _ ?_; clear hK K)
      refine can_mem _ rfl (by go_simp) (fun W hW hG K hK => ?_) (fun K v1 hK => ?_)
      · have hE := HEX.out.trans hW
        go_simp
        refine (HRV.out W hE).mono ?_
        rintro e w' ⟨r, rfl, hr, h⟩
        obtain ⟨ra, rc, hs⟩ := hr.shape
        subst hs
        exact hK (.slice ra L.length rc) w' h (SlR.weaken hr (fun k hk => trivial))
      refine hK _ ?_; clear hK K
      dsimp only [annFi]
      refine can_mem _ rfl (by go_simp) (fun W hW hG K hK => ?_) (fun K v2 hK => ?_)
      · have hE := HEX.out.trans hW
        have hg : FiR (fun _ => True) W (.slice (sA v1) L.length (sC v1)) L := hG _ (List.mem_singleton.2 rfl) (by show (5 : Nat) ∈ _; decide)
        go_simp
        refine (eqF_x L la (sA v1) lc (sC v1) _ _ W (FiR.ext HF9.out hW) hg hvn).mono ?_
        rintro e w' ⟨rfl, h⟩
        exact hK default w' h trivial
      refine hK _ ?_; clear hK K
      dsimp only [annVal]
      iterate 3 (refine can_pure0 rfl (fun K hK => ?_); go_simp; refine hK _ ?_; clear hK K)
      refine can_mem _ rfl (by go_simp) (fun W hW hG K hK => ?_) (fun K v1 hK => ?_)
      · have hE := HEX.out.trans hW
        go_simp
        refine (HSZ.out W hE).mono ?_
        rintro e w' ⟨rfl, h⟩
        exact hK default w' h trivial
      refine hK _ ?_; clear hK K
      dsimp only [annVal]
      (refine can_pure0 rfl (fun K hK => ?_); go_simp; refine hK _ ?_; clear hK K)
      refine can_mem _ rfl (by go_simp) (fun W hW hG K hK => ?_) (fun K v1 hK => ?_)
      · have hE := HEX.out.trans hW
        go_simp
        refine (HRS.out W hE).mono ?_
        rintro e w' ⟨rfl, h⟩
        exact hK default w' h trivial
      refine hK _ ?_; clear hK K
      dsimp only [annVal]
      iterate 4 (refine can_pure0 rfl (fun K hK => ?_); go_simp; refine hK _ ?_; clear hK K)
      refine can_mem _ rfl (by go_simp) (fun W hW hG K hK => ?_) (fun K v1 hK => ?_)
      · have hE := HEX.out.trans hW
        go_simp
        refine (HDP.out W hE).mono ?_
        rintro e w' ⟨rfl, h⟩
        exact hK default w' h trivial
      refine hK _ ?_; clear hK K
      dsimp only [annVal]
      (refine can_pure0 rfl (fun K hK => ?_); go_simp; refine hK _ ?_; clear hK K)
      refine can_mem _ rfl (by go_simp) (fun W hW hG K hK => ?_) (fun K v1 hK => ?_)
      · have hE := HEX.out.trans hW
        go_simp
        refine (HRD.out W hE).mono ?_
        rintro e w' ⟨rfl, h⟩
        exact hK default w' h trivial
      refine hK _ ?_; clear hK K
      dsimp only [annVal]
      iterate 3 (refine can_pure0 rfl (fun K hK => ?_); go_simp; refine hK _ ?_; clear hK K)
      refine can_end (fun w10 h hG => ?_)
      clear hG Q2 Q3 Q4 HEX
      have HE10 := Lib.hid (HE9.out.trans h)
      clear h
      simp only [wpMix]
      go_wp2_with fail
      refine bodyPost_ret (v := .bool true) (by simp [results, Tryz.results8, go_sem]) rfl ?_
      exact ⟨rfl, HE10.out⟩

end Go.Proofs.YtjjaknmnhhfjeaaGreatDoor
