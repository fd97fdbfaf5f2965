/- The texts Y3 Y4 I83 Y5 Y6 Y7 Y8, one behind the other. -/
import Derived.Test.YtjjaknmnhhfjeaaGreatDoorWAH
import Derived.Test.YtjjaknmnhhfjeaaGreatDoorWAD
import Derived.Test.YtjjaknmnhhfjeaaGreatDoorWAG
import Derived.Test.YtjjaknmnhhfjeaaGreatDoorWAF
import Derived.Test.YtjjaknmnhhfjeaaGreatDoorWAE
import Derived.Lib.AppendIntMem
import Derived.Test.YtjjaknmnhhfjeaaGreatDoorWAC
/- declared, own and wrong of the program. -/
namespace Go.Proofs.YtjjaknmnhhfjeaaGreatDoor
open Go.RowKit Go.Hw Go
set_option linter.unusedVariables false
set_option linter.unusedSimpArgs false

open Tm
def dclF (g : Sg) (s : By) : Dc × Bool := if dixN g.2 s < g.2.length then (dg g.2 (dixN g.2 s), true) else ((nul, [], nul), false)
set_option maxRecDepth 100000 in
set_option maxHeartbeats 2000000 in
theorem declared_x (g : Sg) (s : By) (v : Value) (S : Nat → Prop) (w : World) (hG : SgR S w g v) (hS : ∀ k, S k → k < w.heap.size) (hl : g.2.length ≤ 1000000) :
    Calls Tryz.prog 115 #[v, .string s] w fun e w' => ∃ xa xc, e = .returned (.tuple #[.agg #[.string (dclF g s).1.1, .slice xa (dclF g s).1.2.1.length xc, .string (dclF g s).1.2.2], .bool (dclF g s).2]) ∧ StrR S w' (.slice xa (dclF g s).1.2.1.length xc) (dclF g s).1.2.1 ∧ Ext w w' := by
  obtain ⟨sa, sc, oa, oc, rfl, hS1, hD⟩ := hG
  have HD := Lib.hid hD
  have HSB := Lib.hid hS
  have hZ := (((Upd.refl (fun _ => False) w).alloc (.cells #[.slice sa g.1.length sc, .slice oa g.2.length oc] 42)).alloc (.cells #[.string s] 9)).alloc (.cells #[.string ⟨#[]⟩, .slice none 0 0, .string ⟨#[]⟩] 96)
  have HZ := Lib.hid hZ
  have HB0 := Lib.hid (allocOld (allocOld (alloc0 w (.cells #[.slice sa g.1.length sc, .slice oa g.2.length oc] 42)) (.cells #[.string s] 9)) (.cells #[.string ⟨#[]⟩, .slice none 0 0, .string ⟨#[]⟩] 96))
  have HB1 := Lib.hid (allocOld (alloc_at (w.alloc (.cells #[.slice sa g.1.length sc, .slice oa g.2.length oc] 42)) (.cells #[.string s] 9) (n := w.heap.size + 1) (by simp)) (.cells #[.string ⟨#[]⟩, .slice none 0 0, .string ⟨#[]⟩] 96))
  have HB2 := Lib.hid (alloc_at ((w.alloc (.cells #[.slice sa g.1.length sc, .slice oa g.2.length oc] 42)).alloc (.cells #[.string s] 9)) (.cells #[.string ⟨#[]⟩, .slice none 0 0, .string ⟨#[]⟩] 96) (n := w.heap.size + 2) (by simp))
  have HDF : Hid (dclF g s = if dixN g.2 s < g.2.length then (dg g.2 (dixN g.2 s), true) else ((nul, [], nul), false)) := Lib.hid rfl
  have HIX := Lib.hid (idxD135_x (fun d => decide (d.1 = s)) g.2 _ S (w.heap.size + 1) (((w.alloc (.cells #[.slice sa g.1.length sc, .slice oa g.2.length oc] 42)).alloc (.cells #[.string s] 9)).alloc (.cells #[.string ⟨#[]⟩, .slice none 0 0, .string ⟨#[]⟩] 96)) (hD.ext hZ) hl (fun x _ ya yc W hW _ => eq135_x x s _ ya yc W (cellRow (hW.heap HB1.out (fun h => h)) 0 (.string s) rfl)))
  have c1 := cellRow HB0.out 1 (.slice oa g.2.length oc) rfl
  rw [← dix_fx] at HIX
  obtain ⟨D, hDv⟩ : ∃ D, dclF g s = D := ⟨_, rfl⟩
  rw [hDv] at HDF ⊢
  clear hS1 hD hZ hS hDv
  by_cases hd : dixN g.2 s < g.2.length
  · have hdi : dixI g.2 s = (dixN g.2 s : Int) := by unfold dixI; rw [if_pos hd]
    rw [hdi] at HIX
    rw [if_pos hd] at HDF
    obtain ⟨k, hkk⟩ : ∃ k, dixN g.2 s = k := ⟨_, rfl⟩
    rw [hkk] at hd HDF HIX
    have z0 : ¬ (k : Int) < 0 := by omega
    have z0b : decide ((k : Int) < 0) = false := decide_eq_false z0
    have z0' : (0 : Int) ≤ (k : Int) := by omega
    have z1 : (k : Int) < (g.2.length : Int) := by omega
    clear hdi hkk HB1
    go_enter Tryz.func115, Tryz.ntmps115
    go_wp2_with fail
    refine HIX.out.mono ?_
    rintro e w4 ⟨rfl, hw4⟩
    have H4 := Lib.hid (HZ.out.trans hw4)
    have HB04 := Lib.hid (hw4.heap HB0.out (fun h => h))
    have HB24 := Lib.hid (hw4.heap HB2.out (fun h => h))
    obtain ⟨gg, off, hga, _, hat⟩ := (HD.out.ext H4.out).at_ (by omega)
    subst hga
    obtain ⟨xa, xc, q0, q1, q2, hAr⟩ := hat k hd
    have HAr := Lib.hid hAr
    have h4s := hw4.size
    clear hw4 c1 HIX hat HB0 HB2 hAr
    have c1 := cellRow HB04.out 1 (.slice (some ⟨gg, off, none⟩) g.2.length oc) rfl
    have f2 := fun i => frozenRow HB24.out i
    have t0 := cellRow HB24.out 0 (.string ⟨#[]⟩) rfl
    have t1 := cellRow HB24.out 1 (.slice none 0 0) rfl
    have t2 := cellRow HB24.out 2 (.string ⟨#[]⟩) rfl
    obtain ⟨x, hx⟩ : ∃ x, dg g.2 k = x := ⟨_, rfl⟩
    rw [hx] at q0 q1 q2 HDF HAr
    obtain ⟨x1, x2, x3⟩ := x
    dsimp only at q0 q1 q2 HAr
    clear hx
    go_wp2_with fail
    have hr3 := st3_heap HB24.out (.string x1) (.slice xa x2.length xc) (.string x3)
    have hu := st3_upd' w4 (w.heap.size + 2) (.string x1) (.slice xa x2.length xc) (.string x3)
    have e0 := cellRow hr3 0 _ rfl
    have e1 := cellRow hr3 1 _ rfl
    have e2 := cellRow hr3 2 _ rfl
    refine bodyPost_ret (v := .tuple #[.agg #[.string x1, .slice xa x2.length xc, .string x3], .bool true]) (by simp [results, Tryz.results115, go_sem, e0, e1, e2]) rfl ?_
    have hue := H4.out.trans' hu (fun j hj e => by omega)
    rw [HDF.out]
    exact ⟨xa, xc, rfl, SlR.kept HAr.out hu (fun j hj e => by have := HSB.out j hj; omega), hue⟩
  · have hdi : dixI g.2 s = -1 := by unfold dixI; rw [if_neg hd]
    rw [hdi] at HIX
    rw [if_neg hd] at HDF
    clear hdi hd HB1
    go_enter Tryz.func115, Tryz.ntmps115
    go_wp2_with fail
    refine HIX.out.mono ?_
    rintro e w4 ⟨rfl, hw4⟩
    have H4 := Lib.hid (HZ.out.trans hw4)
    have HB24 := Lib.hid (hw4.heap HB2.out (fun h => h))
    have h4s := hw4.size
    clear hw4 c1 HIX HB0 HB2
    have f2 := fun i => frozenRow HB24.out i
    have t0 := cellRow HB24.out 0 (.string ⟨#[]⟩) rfl
    have t1 := cellRow HB24.out 1 (.slice none 0 0) rfl
    have t2 := cellRow HB24.out 2 (.string ⟨#[]⟩) rfl
    go_wp2_with fail
    have hr3 := st3_heap HB24.out (.string ⟨#[]⟩) (.slice none 0 0) (.string ⟨#[]⟩)
    have hu := st3_upd' w4 (w.heap.size + 2) (.string ⟨#[]⟩) (.slice none 0 0) (.string ⟨#[]⟩)
    have e0 := cellRow hr3 0 _ rfl
    have e1 := cellRow hr3 1 _ rfl
    have e2 := cellRow hr3 2 _ rfl
    refine bodyPost_ret (v := .tuple #[.agg #[.string ⟨#[]⟩, .slice none 0 0, .string ⟨#[]⟩], .bool false]) (by simp [results, Tryz.results115, go_sem, e0, e1, e2]) rfl ?_
    have hue := H4.out.trans' hu (fun j hj e => by omega)
    rw [HDF.out]
    exact ⟨none, 0, rfl, SlR.nil _ _ _, hue⟩

def ownP (g : Sg) (t : Tm) : By × Bool := if t.sort ≠ nul then (t.sort, true) else ((dclF g t.name).1.2.2, (dclF g t.name).2)
set_option maxRecDepth 100000 in
set_option maxHeartbeats 2000000 in
theorem pown_x (g : Sg) (t : Tm) (v u : Value) (S T : Nat → Prop) (w : World) (hG : SgR S w g v) (hS : ∀ k, S k → k < w.heap.size) (hT : TmR T w t u) (hl : g.2.length ≤ 1000000) :
    Calls Tryz.prog 82 #[v, u] w fun e w' => e = .returned (.tuple #[.string (ownP g t).1, .bool (ownP g t).2]) ∧ Ext w w' := by
  have HDX := Lib.hid (fun s W (hW : Ext w W) => declared_x g s v S W (hG.ext hW) (fun k hk => Nat.lt_of_lt_of_le (hS k hk) hW.size) hl)
  obtain ⟨sa, sc, oa, oc, rfl, _, _⟩ := hG
  obtain ⟨a, cap, rfl, hT⟩ := hT
  obtain ⟨nm, so, L⟩ := t
  dsimp only [tV, Tm.name, Tm.sort, Tm.kids]
  have HZ := Lib.hid (((Upd.refl (fun _ => False) w).alloc (.cells #[.slice sa g.1.length sc, .slice oa g.2.length oc] 42)).alloc (.cells #[.string nm, .string so, .slice a L.length cap] 24))
  have HB1 := Lib.hid (allocOld (alloc0 w (.cells #[.slice sa g.1.length sc, .slice oa g.2.length oc] 42)) (.cells #[.string nm, .string so, .slice a L.length cap] 24))
  have HB2 := Lib.hid (alloc_at (w.alloc (.cells #[.slice sa g.1.length sc, .slice oa g.2.length oc] 42)) (.cells #[.string nm, .string so, .slice a L.length cap] 24) (n := w.heap.size + 1) (by simp))
  have c0 := cellRow HB1.out 0 (.slice sa g.1.length sc) rfl
  have c1 := cellRow HB1.out 1 (.slice oa g.2.length oc) rfl
  have t0 := cellRow HB2.out 0 (.string nm) rfl
  have t1 := cellRow HB2.out 1 (.string so) rfl
  have HU : Hid (ownP g (.mk nm so L) = if so ≠ nul then (so, true) else ((dclF g nm).1.2.2, (dclF g nm).2)) := Lib.hid rfl
  obtain ⟨V, hV⟩ : ∃ V, ownP g (.mk nm so L) = V := ⟨_, rfl⟩
  rw [hV] at HU ⊢
  clear hT hV
  by_cases hs0 : so.size = 0
  · have hse := empty_is _ hs0
    subst hse
    have HU2 : Hid (V = ((dclF g nm).1.2.2, (dclF g nm).2)) := Lib.hid (by rw [HU.out, if_neg (by simp [nul])])
    have HFX := Lib.hid (HDX.out nm _ HZ.out)
    clear HU HDX hs0
    obtain ⟨⟨⟨d1, d2, d3⟩, db⟩, hd⟩ : ∃ d, dclF g nm = d := ⟨_, rfl⟩
    rw [hd] at HU2 HFX
    dsimp only at HU2 HFX
    clear hd
    go_enter Tryz.func82, Tryz.ntmps82
    go_wp2_with fail
    refine HFX.out.mono ?_
    rintro e w4 ⟨xa, xc, rfl, _, hw4⟩
    have H4 := Lib.hid (HZ.out.trans (hw4.alloc (.cells #[.string d1, .slice xa d2.length xc, .string d3] 96)))
    have HB4 := Lib.hid (alloc0 w4 (.cells #[.string d1, .slice xa d2.length xc, .string d3] 96))
    have q2 := cellRow HB4.out 2 (.string d3) rfl
    clear hw4 c0 c1 t0 t1 HFX HB1 HB2
    go_wp2_with fail
    go_ret2
    rw [HU2.out]
    exact ⟨rfl, H4.out⟩
  · obtain ⟨n1, n2, n3, n4⟩ := nonempty_t so (by omega)
    have HU2 : Hid (V = (so, true)) := Lib.hid (by rw [HU.out, if_pos (by rintro rfl; exact hs0 rfl)])
    clear HU HDX hs0
    go_enter Tryz.func82, Tryz.ntmps82
    go_wp2_with fail
    go_ret2
    rw [HU2.out]
    exact ⟨rfl, HZ.out⟩
theorem ownP_fst (g : Sg) (t : Tm) : (ownP g t).1 = ownF g t := by
  unfold ownP ownF dclF
  by_cases h : t.sort ≠ nul
  · rw [if_pos h, if_pos h]
  · rw [if_neg h, if_neg h]
    by_cases h2 : dixN g.2 t.name < g.2.length
    · rw [if_pos h2, if_pos h2]
    · rw [if_neg h2, if_neg h2]
theorem ownP_snd {g : Sg} (hr : ResOk g) (t : Tm) : (ownP g t).2 = !decide (ownF g t = nul) := by
  unfold ownP ownF dclF
  by_cases h : t.sort ≠ nul
  · rw [if_pos h, if_pos h, decide_eq_false h]; rfl
  · rw [if_neg h, if_neg h]
    by_cases h2 : dixN g.2 t.name < g.2.length
    · rw [if_pos h2, if_pos h2]
      rw [decide_eq_false (hr _ (by rw [dg_at h2]; exact List.getElem_mem h2))]; rfl
    · rw [if_neg h2, if_neg h2]; simp
theorem badK_hit {g : Sg} {L : List Tm} {A : List By} {k : Nat} (hk : k < L.length) (h1 : ownF g (tg L k) ≠ nul) (h2 : ownF g (tg L k) ≠ A.getD k nul) : badK g L A = true := by
  unfold badK
  rw [List.any_eq_true]
  exact ⟨k, List.mem_range.2 hk, by rw [decide_eq_false h1, decide_eq_false h2]; rfl⟩
theorem badK_not {g : Sg} {L : List Tm} {A : List By} (h : ∀ k, k < L.length → ownF g (tg L k) = nul ∨ ownF g (tg L k) = A.getD k nul) : badK g L A = false := by
  unfold badK
  rw [List.any_eq_false]
  intro k hk
  rcases h k (List.mem_range.1 hk) with h1 | h1
  · rw [decide_eq_true h1]; simp
  · rw [decide_eq_true h1]; simp
set_option maxRecDepth 100000 in
set_option maxHeartbeats 2000000 in
theorem pwrong_x (g : Sg) (t : Tm) (v u : Value) (S T : Nat → Prop) (w : World) (hG : SgR S w g v) (hS : ∀ k, S k → k < w.heap.size) (hT : TmR T w t u) (hr : ResOk g) (hl1 : g.1.length ≤ 1000000) (hl : g.2.length ≤ 1000000) (hl3 : ∀ d ∈ g.2, d.2.1.length ≤ 1000000) :
    Calls Tryz.prog 81 #[v, u] w fun e w' => e = .returned (.int .i64 (ndE g t)) ∧ Ext w w' := by
  have HDX := Lib.hid (fun s W (hW : Ext w W) => declared_x g s v S W (hG.ext hW) (fun k hk => Nat.lt_of_lt_of_le (hS k hk) hW.size) hl)
  have HOX := Lib.hid (fun x y W (hW : Ext w W) (hx : TmR T W x y) => pown_x g x v y S T W (hG.ext hW) (fun k hk => Nat.lt_of_lt_of_le (hS k hk) hW.size) hx hl)
  have HRO := Lib.hid hr
  obtain ⟨sa, sc, oa, oc, rfl, hS1, _⟩ := hG
  obtain ⟨a, cap, rfl, hT⟩ := hT
  obtain ⟨nm, so, L⟩ := t
  dsimp only [tV, Tm.name, Tm.sort, Tm.kids] at hT ⊢
  have HS1 := Lib.hid hS1
  have HTL := Lib.hid hT
  have HZ := Lib.hid (((Upd.refl (fun _ => False) w).alloc (.cells #[.slice sa g.1.length sc, .slice oa g.2.length oc] 42)).alloc (.cells #[.string nm, .string so, .slice a L.length cap] 24))
  have HB1 := Lib.hid (allocOld (alloc0 w (.cells #[.slice sa g.1.length sc, .slice oa g.2.length oc] 42)) (.cells #[.string nm, .string so, .slice a L.length cap] 24))
  have HB2 := Lib.hid (alloc_at (w.alloc (.cells #[.slice sa g.1.length sc, .slice oa g.2.length oc] 42)) (.cells #[.string nm, .string so, .slice a L.length cap] 24) (n := w.heap.size + 1) (by simp))
  have c0 := cellRow HB1.out 0 (.slice sa g.1.length sc) rfl
  have c1 := cellRow HB1.out 1 (.slice oa g.2.length oc) rfl
  have t0 := cellRow HB2.out 0 (.string nm) rfl
  have t1 := cellRow HB2.out 1 (.string so) rfl
  have t2 := cellRow HB2.out 2 (.slice a L.length cap) rfl
  have HU := Lib.hid (nd_eq g nm so L)
  obtain ⟨V, hV⟩ : ∃ V, ndE g (.mk nm so L) = V := ⟨_, rfl⟩
  rw [hV] at HU ⊢
  clear hT hV hS1 hr
  by_cases hs0 : so.size = 0
  case neg =>
    obtain ⟨n1, n2, n3, n4⟩ := nonempty_t so (by omega)
    have HU2 : Hid (V = if so ∈ g.1 then 0 else 9) := Lib.hid (by rw [HU.out, if_pos (by rintro rfl; exact hs0 rfl)])
    have HCO := Lib.hid (con_x g.1 so _ S ((w.alloc (.cells #[.slice sa g.1.length sc, .slice oa g.2.length oc] 42)).alloc (.cells #[.string nm, .string so, .slice a L.length cap] 24)) (StR.ext HS1.out HZ.out) hl1)
    clear HU HDX hs0 HOX HRO
    by_cases hm : so ∈ g.1
    · have HV : Hid (V = 0) := Lib.hid (by rw [HU2.out, if_pos hm])
      rw [decide_eq_true hm] at HCO
      clear hm HU2
      go_enter Tryz.func81, Tryz.ntmps81
      go_wp2_with fail
      refine HCO.out.mono ?_
      rintro e w4 ⟨rfl, hw4⟩
      have H4 := Lib.hid (HZ.out.trans hw4)
      clear hw4 c0 c1 t0 t1 t2
      go_wp2_with fail
      go_ret
      rw [HV.out]
      exact ⟨rfl, H4.out⟩
    · have HV : Hid (V = 9) := Lib.hid (by rw [HU2.out, if_neg hm])
      rw [decide_eq_false hm] at HCO
      clear hm HU2
      go_enter Tryz.func81, Tryz.ntmps81
      go_wp2_with fail
      refine HCO.out.mono ?_
      rintro e w4 ⟨rfl, hw4⟩
      have H4 := Lib.hid (HZ.out.trans hw4)
      clear hw4 c0 c1 t0 t1 t2
      go_wp2_with fail
      go_ret
      rw [HV.out]
      exact ⟨rfl, H4.out⟩
  have hse := empty_is _ hs0
  subst hse
  have HU2 : Hid (V = if ¬ dixN g.2 nm < g.2.length then 9 else if L.length ≠ (dg g.2 (dixN g.2 nm)).2.1.length then 3 else if badK g L (dg g.2 (dixN g.2 nm)).2.1 = true then 11 else 0) := Lib.hid (by rw [HU.out, if_neg (by simp [nul])])
  have HFX := Lib.hid (HDX.out nm _ HZ.out)
  clear HU HDX hs0
  have HDF : Hid (dclF g nm = if dixN g.2 nm < g.2.length then (dg g.2 (dixN g.2 nm), true) else ((nul, [], nul), false)) := Lib.hid rfl
  by_cases hd : dixN g.2 nm < g.2.length
  case neg =>
    have HV : Hid (V = 9) := Lib.hid (by rw [HU2.out, if_pos hd])
    have hdf := HDF.out
    rw [if_neg hd] at hdf
    rw [hdf] at HFX
    dsimp only at HFX
    clear hd hdf HDF HU2 HOX
    go_enter Tryz.func81, Tryz.ntmps81
    go_wp2_with fail
    refine HFX.out.mono ?_
    rintro e w4 ⟨xa, xc, rfl, _, hw4⟩
    have H4 := Lib.hid (HZ.out.trans (hw4.alloc (.cells #[.string nul, .slice xa ([] : List By).length xc, .string nul] 96)))
    clear hw4 c0 c1 t0 t1 t2 HFX HB1 HB2
    go_wp2_with fail
    go_ret
    rw [HV.out]
    exact ⟨rfl, H4.out⟩
  have HU3 : Hid (V = if L.length ≠ (dg g.2 (dixN g.2 nm)).2.1.length then 3 else if badK g L (dg g.2 (dixN g.2 nm)).2.1 = true then 11 else 0) := Lib.hid (by rw [HU2.out, if_neg (fun h => h hd)])
  have hdf := HDF.out
  rw [if_pos hd] at hdf
  rw [hdf] at HFX
  obtain ⟨⟨d1, d2, d3⟩, hdd⟩ : ∃ d, dg g.2 (dixN g.2 nm) = d := ⟨_, rfl⟩
  have hdm := hl3 _ (show dg g.2 (dixN g.2 nm) ∈ g.2 by rw [dg_at hd]; exact List.getElem_mem hd)
  rw [hdd] at HFX HU3 hdm
  dsimp only at HFX HU3 hdm
  clear hd hdf HDF HU2 hdd hl3
  go_enter Tryz.func81, Tryz.ntmps81
  go_wp2_with fail
  refine HFX.out.mono ?_
  rintro e w4 ⟨xa, xc, rfl, hA, hw4⟩
  have hw4a := hw4.alloc (.cells #[.string d1, .slice xa d2.length xc, .string d3] 96)
  have H4 := Lib.hid (HZ.out.trans hw4a)
  have HB14 := Lib.hid (hw4a.heap HB1.out (fun h => h))
  have HB24 := Lib.hid (hw4a.heap HB2.out (fun h => h))
  have HBD4 := Lib.hid (alloc0 w4 (.cells #[.string d1, .slice xa d2.length xc, .string d3] 96))
  have HA4 := Lib.hid (SlR.kept hA ((Upd.refl (fun _ => False) w4).alloc (.cells #[.string d1, .slice xa d2.length xc, .string d3] 96)) (fun _ _ h => h))
  clear hw4 hw4a c0 c1 t0 t1 t2 HFX HB1 HB2 hA
  have t2 := cellRow HB24.out 2 (.slice a L.length cap) rfl
  have d1c := cellRow HBD4.out 1 (.slice xa d2.length xc) rfl
  by_cases hln : L.length = d2.length
  case neg =>
    have HV : Hid (V = 3) := Lib.hid (by rw [HU3.out, if_pos hln])
    have y1 : ((L.length : Int) == (d2.length : Int)) = false := beq_eq_false_iff_ne.2 (by omega)
    have y2 : ((L.length : Int) != (d2.length : Int)) = true := by simp [y1, bne]
    clear HOX hln
    go_wp2_with fail
    go_ret
    rw [HV.out]
    exact ⟨rfl, H4.out⟩
  have HU4 : Hid (V = if badK g L d2 = true then 11 else 0) := Lib.hid (by rw [HU3.out, if_neg (fun h => h hln)])
  have y1 : ((L.length : Int) == (d2.length : Int)) = true := by rw [hln]; simp
  have y2 : ((L.length : Int) != (d2.length : Int)) = false := by simp [y1, bne]
  have HLN := Lib.hid hln
  have hLm : L.length ≤ 1000000 := by omega
  clear hln HU3
  go_wp2_with fail
  clear y1 y2 t2 d1c
  generalize w4.alloc (.cells #[.string d1, .slice xa d2.length xc, .string d3] 96) = w5 at *
  obtain ⟨nd, hnd⟩ : ∃ nd, w4.heap.size = nd := ⟨_, rfl⟩
  try rw [hnd] at HBD4
  try rw [hnd]
  clear hnd
  go_loopg [41] L.length (fun gk iv wr => ∃ k : Nat, iv = .int .i64 (k : Int) ∧ gk = L.length - k ∧ k ≤ L.length ∧ Hid (∀ j, j < k → ownF g (tg L j) = nul ∨ ownF g (tg L j) = d2.getD j nul) ∧ Hid (Ext w5 wr))
  case atStart => exact ⟨0, rfl, rfl, Nat.zero_le _, Lib.hid (fun j h => absurd h (Nat.not_lt_zero _)), Lib.hid (Upd.refl _ _)⟩
  case round =>
    obtain ⟨k, rfl, rfl, hk, HC, HE⟩ := hrel
    have HB1r := Lib.hid (HE.out.heap HB14.out (fun h => h))
    have HBDr := Lib.hid (HE.out.heap HBD4.out (fun h => h))
    by_cases hlt : k < L.length
    · have hk2 : k < d2.length := by rw [← HLN.out]; exact hlt
      obtain ⟨gg, off, hga, _, hat⟩ := (HTL.out.ext (H4.out.trans HE.out)).at_ (by omega)
      subst hga
      obtain ⟨ya, yc, q0, q1, q2, hkid⟩ := hat k hlt
      rw [← Nat.add_assoc] at q1 q2
      obtain ⟨g2, off2, hga2, _, hat2⟩ := SlR.one_at (d := nul) (SlR.kept HA4.out HE.out (fun _ _ h => h)) (by omega)
      subst hga2
      have r0 := hat2 k hk2
      have z0 : (0 : Int) ≤ (k : Int) := by omega
      have z1 : (k : Int) < (L.length : Int) := by omega
      have z2 : decide ((k : Int) < (L.length : Int)) = true := decide_eq_true z1
      have z2' : decide (k < L.length) = true := decide_eq_true hlt
      have u1 : (k : Int) < (d2.length : Int) := by omega
      have HOWN := Lib.hid (fun W (hW : Ext wr W) => HOX.out (tg L k) (tV (tg L k) (.slice ya (tg L k).kids.length yc)) W ((H4.out.trans HE.out).trans hW) ⟨ya, yc, rfl, hkid.ext hW⟩)
      have HP1 := Lib.hid (ownP_fst g (tg L k))
      have HP2 := Lib.hid (ownP_snd HRO.out (tg L k))
      have HHIT : Hid (ownF g (tg L k) ≠ nul → ownF g (tg L k) ≠ d2.getD k nul → V = 11) := Lib.hid (fun h1 h2 => by rw [HU4.out, if_pos (badK_hit hlt h1 h2)])
      have HGO : Hid ((ownF g (tg L k) = nul ∨ ownF g (tg L k) = d2.getD k nul) → ∀ j, j < k + 1 → ownF g (tg L j) = nul ∨ ownF g (tg L j) = d2.getD j nul) := Lib.hid (fun h j hj => by
        rcases Nat.lt_succ_iff_lt_or_eq.1 hj with h5 | h5
        · exact HC.out j h5
        · rw [h5]; exact h)
      obtain ⟨x, hx⟩ : ∃ x, tg L k = x := ⟨_, rfl⟩
      rw [hx] at q0 q1 q2 HOWN HP1 HP2 HHIT HGO
      obtain ⟨y, hy⟩ : ∃ y, d2.getD k nul = y := ⟨_, rfl⟩
      rw [hy] at r0 HHIT HGO
      dsimp only [tV] at HOWN
      obtain ⟨P, hP⟩ : ∃ P, ownP g x = P := ⟨_, rfl⟩
      rw [hP] at HOWN HP1 HP2
      obtain ⟨o1, o2⟩ := P
      dsimp only at HOWN HP1 HP2
      rw [← HP1.out] at HP2 HHIT HGO
      have HEX := Lib.hid (HE.out.trans ((Upd.refl (fun _ => False) wr).alloc (.cells #[.string x.name, .string x.sort, .slice ya x.kids.length yc] 24)))
      have HBX := Lib.hid (alloc0 wr (.cells #[.string x.name, .string x.sort, .slice ya x.kids.length yc] 24))
      have HAX := Lib.hid ((Upd.refl (fun _ => False) wr).alloc (.cells #[.string x.name, .string x.sort, .slice ya x.kids.length yc] 24))
      have c0 := cellRow (HAX.out.heap HB1r.out (fun h => h)) 0 (.slice sa g.1.length sc) rfl
      have c1 := cellRow (HAX.out.heap HB1r.out (fun h => h)) 1 (.slice oa g.2.length oc) rfl
      have x0 := cellRow HBX.out 0 (.string x.name) rfl
      have x1 := cellRow HBX.out 1 (.string x.sort) rfl
      have x2 := cellRow HBX.out 2 (.slice ya x.kids.length yc) rfl
      have r0' := HAX.out.cell r0 (fun h => h)
      have HOW2 := Lib.hid (HOWN.out _ HAX.out)
      have HBDX := Lib.hid (HAX.out.heap HBDr.out (fun h => h))
      clear hat hat2 hkid hx hy hP HOWN HC HP1 r0
      go_wp2_with fail
      clear q0 q1 q2
      generalize wr.alloc (.cells #[.string x.name, .string x.sort, .slice ya x.kids.length yc] 24) = w6 at *
      refine HOW2.out.mono ?_
      rintro e w7 ⟨rfl, hw7⟩
      have H7 := Lib.hid (HEX.out.trans hw7)
      have H70 := Lib.hid (H4.out.trans H7.out)
      have r1 := hw7.cell r0' (fun h => h)
      have d1c := cellRow (hw7.heap HBDX.out (fun h => h)) 1 (.slice (some ⟨g2, off2, none⟩) d2.length xc) rfl
      clear hw7 c0 c1 x0 x1 x2 r0' HOW2
      cases o2
      · have hn : o1 = nul := by have := HP2.out; simpa using this.symm
        have HN := Lib.hid (HGO.out (.inl hn))
        clear hn HGO HHIT HP2
        go_wp2_with fail
        go_roundg (L.length - (k + 1))
        case measure => omega
        case rel => exact ⟨k + 1, by go_num, rfl, by omega, HN, H7⟩
      · have hn : o1 ≠ nul := by have := HP2.out; simpa using this
        by_cases he : o1 = y
        · have HN := Lib.hid (HGO.out (.inr he))
          subst he
          clear hn HGO HHIT HP2
          go_wp2_with fail
          go_roundg (L.length - (k + 1))
          case measure => omega
          case rel => exact ⟨k + 1, by go_num, rfl, by omega, HN, H7⟩
        · have HV := Lib.hid (HHIT.out hn he)
          have t9 := str_ne he
          clear hn he HGO HHIT HP2
          go_wp2_with fail
          go_ret
          rw [HV.out]
          exact ⟨rfl, H70.out⟩
    · obtain rfl : k = L.length := by omega
      have z2 : decide ((L.length : Int) < (L.length : Int)) = false := decide_eq_false (by omega)
      have HV : Hid (V = 0) := Lib.hid (by rw [HU4.out, if_neg (by rw [badK_not HC.out]; decide)])
      have H9 := Lib.hid (H4.out.trans HE.out)
      go_wp2_with fail
      go_ret
      rw [HV.out]
      exact ⟨rfl, H9.out⟩

end Go.Proofs.YtjjaknmnhhfjeaaGreatDoor

/- The nodes of a term, each with where its parts lie. -/
namespace Go.Proofs.YtjjaknmnhhfjeaaGreatDoor
open Go.RowKit Go.Hw Go
set_option linter.unusedVariables false
set_option linter.unusedSimpArgs false

open Go.Shelf Tm
attribute [local go_sem] Oper.semAt_some
theorem abides_allocS {α : Type} {J : List α → World → Prop} {B : Nat} (h : AbidesFrom B J) {pre : List α} {W : World} (o : Obj) (hj : J pre W) : J pre (W.alloc o) := h pre W _ none hj (World.grownBy_alloc W o none) (fun r e => by cases e)
structure NdS (S : Nat → Prop) (w0 : World) where
  t : Tm
  a : Option Addr
  cap : Nat
  d : Nat
  ok : TlR S w0 t.kids (.slice a t.kids.length cap)
def NdS.encs {S : Nat → Prop} {w0 : World} (x : NdS S w0) : Array Value := #[tV x.t (.slice x.a x.t.kids.length x.cap), .int .i64 (x.d : Int)]
def NdS.pr {S : Nat → Prop} {w0 : World} (x : NdS S w0) : Tm × Nat := (x.t, x.d)
set_option maxRecDepth 100000 in
set_option maxHeartbeats 4000000 in
theorem visit_inS (F : Fence) (hd : F.depth = none) (hf : ∀ k, F.fn k) (hro : F.round = none) (l Bv n₁ N B0 : Nat) (G S : Nat → Prop) (hS : ∀ k, S k → ¬ G k) (hBv : ¬ G Bv) (hG : ∀ k, G k → k < n₁) (w0 : World) (J Jx : List (NdS S w0) → World → Prop) (hJ : AbidesFrom B0 J)
    (hY : ∀ m pre x W, J pre W → pre.length < N → YieldAt F m Tryz.prog l x.encs W fun e W' => (e = .returned (.bool true) ∧ J (pre ++ [x]) W' ∧ KpG G W W') ∨ (e = .returned (.bool false) ∧ Jx (pre ++ [x]) W')) :
    ∀ (t : Tm) (n : Nat) (a : Option Addr) (cap d : Nat) (pre : List (NdS S w0)) (W : World), TlR S w0 t.kids (.slice a t.kids.length cap) → KpG G w0 W → W.heap[Bv]? = some (.cells #[(.func (.func 113) #[] #[.pointer (some ⟨Bv, 0, none⟩)])] 163 (0, 0)) → J pre W → n₁ ≤ W.heap.size → pre.length + t.size ≤ N → ((d + t.size : Nat) : Int) ≤ 4611686018427387904 →
      CallsIn F n Tryz.prog 113 #[tV t (.slice a t.kids.length cap), .int .i64 (d : Int), .func (.yield l) #[] #[], .pointer (some ⟨Bv, 0, none⟩)] W fun e W' =>
        (e = .returned (.bool true) ∧ ∃ xs : List (NdS S w0), xs.map NdS.pr = nodesD d t ∧ J (pre ++ xs) W' ∧ KpG G W W') ∨ (e = .returned (.bool false) ∧ ∃ q : List (NdS S w0), q.map NdS.pr <+: nodesD d t ∧ Jx (pre ++ q) W') := by
  have hdd : ∀ k : Nat, (F.depth.isSome = true → 1 ≤ k) := fun k h => by rw [hd] at h; cases h
  refine Tm.ind (fun nm so L ih => ?_)
  intro n a cap d pre W hR hk0 hV hJ0 hn1 hN hdb
  have hsz := size_eq (.mk nm so L)
  dsimp only [tV, Tm.name, Tm.sort, Tm.kids] at hR hsz ⊢
  rw [hsz] at hN hdb
  have hb := alloc0 W (.cells #[.string nm, .string so, .slice a L.length cap] 24)
  have c0 := cellRow hb 0 (.string nm) rfl
  have c1 := cellRow hb 1 (.string so) rfl
  have c2 := cellRow hb 2 (.slice a L.length cap) rfl
  have hU0 : KpG G W (W.alloc (.cells #[.string nm, .string so, .slice a L.length cap] 24)) := KpG.of_ext ((Upd.refl _ W).alloc _)
  have hGB : ¬ G W.heap.size := fun h => by have := hG _ h; omega
  obtain ⟨fn, tmps, assign, body, hy, hR1⟩ := hY (n - 1) pre ⟨.mk nm so L, a, cap, d, hR⟩ (W.alloc (.cells #[.string nm, .string so, .slice a L.length cap] 24)) (abides_allocS hJ _ hJ0) (by omega)
  dsimp only [NdS.encs, tV, Tm.name, Tm.sort, Tm.kids] at hy
  refine callsIn_of_wp Tryz.func113 rfl (hf 113) ?_ hro
  simp only [Tryz.ntmps113, List.size_toArray, List.length_cons, List.length_nil, Nat.reduceAdd, Nat.reduceSub, Array.replicate_succ, Array.replicate_zero, List.push_toArray, List.append_toArray, List.nil_append, List.cons_append]
  gi_wp2
  refine hR1.mono ?_
  clear hR1
  rintro e W1 (⟨rfl, hJ1, hk1⟩ | ⟨rfl, hx1⟩)
  · have hb1 := hk1.cells _ _ _ _ hGB hb
    have d2 := cellRow hb1 2 (.slice a L.length cap) rfl
    gi_wp2
    gi_loopg [18] (L.length) (fun gk iv wr => ∃ (k : Nat) (xs : List (NdS S w0)), iv = .int .i64 (k : Int) ∧ gk = L.length - k ∧ k ≤ L.length ∧ xs.map NdS.pr = nodesDs (d + 1) (L.take k) ∧ J (pre ++ [⟨.mk nm so L, a, cap, d, hR⟩] ++ xs) wr ∧ KpG G W wr)
    case atStart => exact ⟨0, [], rfl, rfl, Nat.zero_le _, rfl, by simpa using hJ1, hU0.trans hk1⟩
    case round =>
      obtain ⟨k, xs, rfl, rfl, hk, hxs, hJr, hkr⟩ := hrel
      by_cases hlt : k < L.length
      · obtain ⟨g, off, rfl, hSg, hat⟩ := hR.at_ (by omega)
        obtain ⟨a', cap', q0, q1, q2, hkid⟩ := hat k hlt
        have hkw := hk0.trans hkr
        have q0 := hkw.cell (hS _ hSg) rfl q0
        have q1 := hkw.cell (hS _ hSg) rfl q1
        have q2 := hkw.cell (hS _ hSg) rfl q2
        have z0 : (0 : Int) ≤ (k : Int) := by omega
        have z1 : (k : Int) < (L.length : Int) := by omega
        have z2 : decide ((k : Int) < (L.length : Int)) = true := decide_eq_true z1
        have hv := hkr.cells _ _ _ _ hBv hV
        have hmem : tg L k ∈ L := by unfold tg; rw [List.getD_eq_getElem?_getD, List.getElem?_eq_getElem hlt]; exact List.getElem_mem hlt
        have hsz2 : sizes (L.take k) + (tg L k).size ≤ sizes L := by
          have h1 : L = L.take k ++ tg L k :: L.drop (k + 1) := by
            unfold tg; rw [List.getD_eq_getElem?_getD, List.getElem?_eq_getElem hlt]; simp
          have h2 := congrArg sizes h1
          rw [sizes_append] at h2
          simp only [sizes] at h2
          omega
        have hxl : xs.length = sizes (L.take k) := by have := congrArg List.length hxs; rw [List.length_map, nodesDs_len] at this; exact this
        obtain ⟨x, hx⟩ : ∃ x, tg L k = x := ⟨_, rfl⟩
        rw [hx] at q0 q1 q2 hkid hmem hsz2
        rw [← Nat.add_assoc] at q1 q2
        have hb4 := alloc0 wr (.cells #[.string x.name, .string x.sort, .slice a' x.kids.length cap'] 24)
        have e0 := cellRow hb4 0 (.string x.name) rfl
        have e1 := cellRow hb4 1 (.string x.sort) rfl
        have e2 := cellRow hb4 2 (.slice a' x.kids.length cap') rfl
        have e3 := cellRow (allocOld hv (.cells #[.string x.name, .string x.sort, .slice a' x.kids.length cap'] 24)) 0 (.func (.func 113) #[] #[.pointer (some ⟨Bv, 0, none⟩)]) rfl
        have hk4 : KpG G wr (wr.alloc (.cells #[.string x.name, .string x.sort, .slice a' x.kids.length cap'] 24)) := KpG.of_ext ((Upd.refl _ wr).alloc _)
        have hlen : (L.length : Int) ≤ 4611686018427387904 := by have := length_le_sizes L; omega
        have ihk := ih x hmem (n - 1) a' cap' (d + 1) _ _ hkid (hkw.trans hk4) (allocOld hv (.cells #[.string x.name, .string x.sort, .slice a' x.kids.length cap'] 24)) (abides_allocS hJ _ hJr) (by have h1 := hkr.size; have h2 := hk4.size; omega) (by simp only [List.length_append, List.length_singleton]; omega) (by omega)
        have hw1 : IntKind.i64.wrap ((d : Int) + 1) = (d : Int) + 1 := IntWalk.i64_in _ (by omega)
        have hw2 : wrap64 ((d : Int) + 1) = (d : Int) + 1 := IntWalk.wrap64_in _ (by omega)
        rw [show (((d + 1 : Nat)) : Int) = (d : Int) + 1 by omega] at ihk
        dsimp only [tV] at ihk
        gi_wp2_with (gi_at_call 113; refine ihk.mono ?_; clear ihk; rintro e W4 (⟨rfl, ys, hys, hJ4, hk5⟩ | ⟨rfl, q, hq, hx4⟩))
        · gi_roundg (L.length - (k + 1))
          case measure => omega
          case rel => 
            refine ⟨k + 1, xs ++ ys, by go_num, rfl, by omega, ?_, by rw [← List.append_assoc]; exact hJ4, (hkr.trans hk4).trans hk5⟩
            rw [List.map_append, hxs, hys, List.take_add_one, nodesDs_append]
            have : L[k]?.toList = [x] := by rw [← hx]; unfold tg; rw [List.getD_eq_getElem?_getD, List.getElem?_eq_getElem hlt]; rfl
            rw [this]
            simp [nodesDs]
        · go_ret
          refine .inr ⟨rfl, ⟨.mk nm so L, some ⟨g, off, none⟩, cap, d, hR⟩ :: (xs ++ q), ?_, by simpa using hx4⟩
          obtain ⟨r, hr⟩ := hq
          refine ⟨r ++ nodesDs (d + 1) (L.drop (k + 1)), ?_⟩
          rw [nodesD_eq]
          simp only [Tm.kids, List.map_cons, List.map_append, hxs, List.cons_append, List.append_assoc]
          rw [← List.append_assoc (List.map NdS.pr q) r, hr]
          have h1 : L = L.take k ++ x :: L.drop (k + 1) := by
            rw [← hx]; unfold tg; rw [List.getD_eq_getElem?_getD, List.getElem?_eq_getElem hlt]; simp
          have h2 := congrArg (nodesDs (d + 1)) h1
          rw [nodesDs_append] at h2
          simp only [nodesDs] at h2
          rw [h2]
          rfl
      · obtain rfl : k = L.length := by omega
        gi_wp2
        go_ret
        refine .inl ⟨rfl, ⟨.mk nm so L, a, cap, d, hR⟩ :: xs, ?_, by simpa using hJr, hkr⟩
        rw [List.map_cons, hxs, List.take_length, nodesD_eq]
        rfl
  · gi_wp2
    go_ret
    exact .inr ⟨rfl, [⟨.mk nm so L, a, cap, d, hR⟩], ⟨nodesDs (d + 1) L, by rw [nodesD_eq]; rfl⟩, hx1⟩

set_option maxHeartbeats 1000000 in
theorem nodes1_inS (F : Fence) (hd : F.depth = none) (n : Nat) (hf : ∀ k, F.fn k) (hro : F.round = none) (l Bv Bt n₁ B0 : Nat) (G S : Nat → Prop) (hS : ∀ k, S k → ¬ G k) (hBv : ¬ G Bv) (hG : ∀ k, G k → k < n₁) (w0 : World) (J Jx : List (NdS S w0) → World → Prop) (hJ : AbidesFrom B0 J)
    (t : Tm) (a : Option Addr) (cap : Nat)
    (hY : ∀ pre x W, J pre W → pre.length < t.size → YieldAt F (n - 1) Tryz.prog l x.encs W fun e W' => (e = .returned (.bool true) ∧ J (pre ++ [x]) W' ∧ KpG G W W') ∨ (e = .returned (.bool false) ∧ Jx (pre ++ [x]) W'))
    (W : World) (hR : TlR S w0 t.kids (.slice a t.kids.length cap)) (hk0 : KpG G w0 W) (hV : W.heap[Bv]? = some (.cells #[(.func (.func 113) #[] #[.pointer (some ⟨Bv, 0, none⟩)])] 163 (0, 0))) (hT : W.heap[Bt]? = some (.cells #[.string t.name, .string t.sort, .slice a t.kids.length cap] 24 (0, 0))) (h0 : J [] W) (hnW : n₁ ≤ W.heap.size) (hsz : ((1 + t.size : Nat) : Int) ≤ 4611686018427387904) :
    CallsIn F n Tryz.prog 114 #[.func (.yield l) #[] #[], .pointer (some ⟨Bv, 0, none⟩), .pointer (some ⟨Bt, 0, none⟩)] W fun e W' => (∃ v, e = .returned v) ∧ ((∃ xs : List (NdS S w0), xs.map NdS.pr = nodesD 1 t ∧ J xs W') ∨ (∃ pre : List (NdS S w0), pre.map NdS.pr <+: nodesD 1 t ∧ Jx pre W')) := by
  have hdd : ∀ k : Nat, (F.depth.isSome = true → 1 ≤ k) := fun k h => by rw [hd] at h; cases h
  have hp := visit_inS F hd hf hro l Bv n₁ t.size B0 G S hS hBv hG w0 J Jx hJ (fun m pre x W hj hl => YieldAt.anyDepth hd m (hY pre x W hj hl)) t (n - 1) a cap 1 [] W hR hk0 hV h0 hnW (by simp) hsz
  have c0 := cellRow hT 0 (.string t.name) rfl
  have c1 := cellRow hT 1 (.string t.sort) rfl
  have c2 := cellRow hT 2 (.slice a t.kids.length cap) rfl
  have v0 := cellRow hV 0 (.func (.func 113) #[] #[.pointer (some ⟨Bv, 0, none⟩)]) rfl
  dsimp only [tV] at hp
  refine callsIn_of_wp Tryz.func114 rfl (hf 114) ?_ hro
  simp only [Tryz.ntmps114, List.size_toArray, List.length_cons, List.length_nil, Nat.reduceAdd, Nat.reduceSub, Array.replicate_succ, Array.replicate_zero, List.push_toArray, List.append_toArray, List.nil_append, List.cons_append]
  gi_wp2_with (gi_at_call 113; refine hp.mono ?_; clear hp; rintro e W1 (⟨rfl, xs, hxs, hJ1, _⟩ | ⟨rfl, q, hq, hx⟩))
  · go_end0
    exact ⟨⟨_, rfl⟩, .inl ⟨xs, hxs, by simpa using hJ1⟩⟩
  · go_end0
    exact ⟨⟨_, rfl⟩, .inr ⟨q, hq, by simpa using hx⟩⟩
theorem nodes_stopsS (F : Fence) (hd : F.depth = none) (n : Nat) (hf : ∀ k, F.fn k) (hro : F.round = none) (Bv Bt : Nat) (G S : Nat → Prop) (w : World) (hS : ∀ k, S k → ¬ G k) (hBv : ¬ G Bv) (hG : ∀ k, G k → k < w.heap.size) (hSw : ∀ k, S k → k < w.heap.size) (t : Tm) (a : Option Addr) (cap : Nat)
    (hR : TlR S w t.kids (.slice a t.kids.length cap)) (hV : w.heap[Bv]? = some (.cells #[(.func (.func 113) #[] #[.pointer (some ⟨Bv, 0, none⟩)])] 163 (0, 0))) (hT : w.heap[Bt]? = some (.cells #[.string t.name, .string t.sort, .slice a t.kids.length cap] 24 (0, 0))) (hsz : ((1 + t.size : Nat) : Int) ≤ 4611686018427387904) :
    SeqStopsK F n Tryz.prog 114 #[.pointer (some ⟨Bv, 0, none⟩), .pointer (some ⟨Bt, 0, none⟩)] NdS.encs (KpG G) (fun xs : List (NdS S w) => xs.map NdS.pr = nodesD 1 t) (fun pre => pre.map NdS.pr <+: nodesD 1 t) t.size w := fun l J Jx W hW hJ _ hY h0 =>
  have hE : Ext w W := ⟨hW.os, hW.tape, hW.output, hW.size, fun k hk _ => hW.block k hk⟩
  nodes1_inS F hd n hf hro l Bv Bt w.heap.size W.heap.size G S hS hBv hG w J Jx hJ t a cap hY W hR (KpG.of_ext hE) (hE.heap hV (fun h => h)) (hE.heap hT (fun h => h)) h0 hW.size hsz

end Go.Proofs.YtjjaknmnhhfjeaaGreatDoor

/- Sort, Valid, Vars of the reference. -/
namespace Go.Proofs.YtjjaknmnhhfjeaaGreatDoor
open Go.RowKit Go.Hw Go
set_option linter.unusedVariables false
set_option linter.unusedSimpArgs false

open Tm
def sortF (g : Sg) (t : Tm) : By × Int := if vsgB nmB g = false ∨ wf nmB t = false then (nul, 1) else if wrongF g t ≠ 0 then (nul, wrongF g t) else (ownF g t, 0)
def validF (g : Sg) (t : Tm) : Bool := decide ((sortF g t).2 = 0)
set_option maxRecDepth 100000 in
set_option maxHeartbeats 2000000 in
theorem rsort_x (g : Sg) (t : Tm) (v u : Value) (S T : Nat → Prop) (w : World) (hG : SgR S w g v) (hT : TmR T w t u) (hl1 : g.1.length ≤ 1000000) (hl2 : g.2.length ≤ 1000000) : Calls Tryz.prog 33 #[v, u] w fun e w' => e = .returned (.tuple #[.string (sortF g t).1, .int .i64 (sortF g t).2]) ∧ Ext w w' := by
  have HVS := Lib.hid (fun W (hW : Ext w W) => vsig_x g v S W (hG.ext hW) hl1 hl2)
  have HRF := Lib.hid (fun W (hW : Ext w W) => rformed_x t u T W (hT.ext hW))
  have HWR := Lib.hid (fun (hw : wf nmB t = true) W (hW : Ext w W) => wrong_x g t v u S T W (hG.ext hW) (hT.ext hW) hl2 hl1 (by have := wf_size hw; omega))
  have HOW := Lib.hid (fun W (hW : Ext w W) => own_x g t v u S T W (hG.ext hW) (hT.ext hW) hl2)
  have HS0 : Hid (vsgB nmB g = false ∨ wf nmB t = false → sortF g t = (nul, 1)) := Lib.hid (fun h => by unfold sortF; rw [if_pos h])
  have HS1 : Hid (vsgB nmB g = true → wf nmB t = true → sortF g t = if wrongF g t ≠ 0 then (nul, wrongF g t) else (ownF g t, 0)) := Lib.hid (fun h h2 => by unfold sortF; rw [if_neg (by rw [h, h2]; simp)])
  obtain ⟨sa, sc, oa, oc, rfl, _, _⟩ := hG
  obtain ⟨a, cap, rfl, _⟩ := hT
  have HZ := Lib.hid (((Upd.refl (fun _ => False) w).alloc (.cells #[.slice sa g.1.length sc, .slice oa g.2.length oc] 42)).alloc (.cells #[.string t.name, .string t.sort, .slice a t.kids.length cap] 24))
  have HBG := Lib.hid (allocOld (alloc0 w (.cells #[.slice sa g.1.length sc, .slice oa g.2.length oc] 42)) (.cells #[.string t.name, .string t.sort, .slice a t.kids.length cap] 24))
  have HBT := Lib.hid (alloc_at (w.alloc (.cells #[.slice sa g.1.length sc, .slice oa g.2.length oc] 42)) (.cells #[.string t.name, .string t.sort, .slice a t.kids.length cap] 24) (n := w.heap.size + 1) (by simp))
  dsimp only [tV] at HRF HWR HOW ⊢
  obtain ⟨V, hV⟩ : ∃ V, sortF g t = V := ⟨_, rfl⟩
  rw [hV] at HS0 HS1 ⊢
  obtain ⟨B1, hB1⟩ : ∃ b, vsgB nmB g = b := ⟨_, rfl⟩
  rw [hB1] at HVS HS0 HS1
  obtain ⟨B2, hB2⟩ : ∃ b, wf nmB t = b := ⟨_, rfl⟩
  rw [hB2] at HRF HWR HS0 HS1
  clear hV hB1 hB2
  have c0 := cellRow HBG.out 0 (.slice sa g.1.length sc) rfl
  have c1 := cellRow HBG.out 1 (.slice oa g.2.length oc) rfl
  have t0 := cellRow HBT.out 0 (.string t.name) rfl
  have t1 := cellRow HBT.out 1 (.string t.sort) rfl
  have t2 := cellRow HBT.out 2 (.slice a t.kids.length cap) rfl
  go_enter Tryz.func33, Tryz.ntmps33
  go_wp2_with fail
  refine (HVS.out _ HZ.out).mono ?_
  rintro e w4 ⟨rfl, hw4⟩
  have H4 := Lib.hid (HZ.out.trans hw4)
  have HBG4 := Lib.hid (hw4.heap HBG.out (fun h => h))
  have HBT4 := Lib.hid (hw4.heap HBT.out (fun h => h))
  clear hw4 c0 c1 t0 t1 t2
  have c0 := cellRow HBG4.out 0 (.slice sa g.1.length sc) rfl
  have c1 := cellRow HBG4.out 1 (.slice oa g.2.length oc) rfl
  have t0 := cellRow HBT4.out 0 (.string t.name) rfl
  have t1 := cellRow HBT4.out 1 (.string t.sort) rfl
  have t2 := cellRow HBT4.out 2 (.slice a t.kids.length cap) rfl
  cases B1
  · have HV := Lib.hid (HS0.out (.inl (by simp)))
    go_wp2_with fail
    all_goals go_ret2
    all_goals (rw [HV.out]; exact ⟨rfl, H4.out⟩)
  go_wp2_with fail
  refine (HRF.out _ H4.out).mono ?_
  rintro e w5 ⟨rfl, hw5⟩
  have H5 := Lib.hid (H4.out.trans hw5)
  have HBG5 := Lib.hid (hw5.heap HBG4.out (fun h => h))
  have HBT5 := Lib.hid (hw5.heap HBT4.out (fun h => h))
  clear hw5 c0 c1 t0 t1 t2
  have c0 := cellRow HBG5.out 0 (.slice sa g.1.length sc) rfl
  have c1 := cellRow HBG5.out 1 (.slice oa g.2.length oc) rfl
  have t0 := cellRow HBT5.out 0 (.string t.name) rfl
  have t1 := cellRow HBT5.out 1 (.string t.sort) rfl
  have t2 := cellRow HBT5.out 2 (.slice a t.kids.length cap) rfl
  cases B2
  · have HV := Lib.hid (HS0.out (.inr (by simp)))
    go_wp2_with fail
    all_goals go_ret2
    all_goals (rw [HV.out]; exact ⟨rfl, H5.out⟩)
  have HS2 := Lib.hid (HS1.out (by simp) (by simp))
  have HWR2 := Lib.hid (HWR.out (by simp) _ H5.out)
  clear HS0 HS1 HWR HVS HRF
  obtain ⟨X, hX⟩ : ∃ X, wrongF g t = X := ⟨_, rfl⟩
  rw [hX] at HWR2 HS2
  clear hX
  go_wp2_with fail
  refine HWR2.out.mono ?_
  rintro e w6 ⟨rfl, hw6⟩
  have H6 := Lib.hid (H5.out.trans hw6)
  have HBG6 := Lib.hid (hw6.heap HBG5.out (fun h => h))
  have HBT6 := Lib.hid (hw6.heap HBT5.out (fun h => h))
  clear hw6 c0 c1 t0 t1 t2
  have c0 := cellRow HBG6.out 0 (.slice sa g.1.length sc) rfl
  have c1 := cellRow HBG6.out 1 (.slice oa g.2.length oc) rfl
  have t0 := cellRow HBT6.out 0 (.string t.name) rfl
  have t1 := cellRow HBT6.out 1 (.string t.sort) rfl
  have t2 := cellRow HBT6.out 2 (.slice a t.kids.length cap) rfl
  clear HWR2
  by_cases hx : X = 0
  case neg =>
    have HV : Hid (V = (nul, X)) := Lib.hid (by rw [HS2.out, if_pos hx])
    have y1 : (X == 0) = false := beq_eq_false_iff_ne.2 hx
    have y2 : (X != 0) = true := by simp [hx]
    go_wp2_with fail
    all_goals go_ret2
    all_goals (rw [HV.out]; exact ⟨rfl, H6.out⟩)
  subst hx
  have HV : Hid (V = (ownF g t, 0)) := Lib.hid (by rw [HS2.out, if_neg (by simp)])
  have HOW2 := Lib.hid (HOW.out _ H6.out)
  generalize ownF g t = Y at *
  go_wp2_with fail
  refine HOW2.out.mono ?_
  rintro e w7 ⟨rfl, hw7⟩
  have H7 := Lib.hid (H6.out.trans hw7)
  clear hw7 c0 c1 t0 t1 t2
  go_wp2_with fail
  all_goals go_ret2
  all_goals (rw [HV.out]; exact ⟨rfl, H7.out⟩)
set_option maxRecDepth 100000 in
set_option maxHeartbeats 2000000 in
theorem rvalid_x (g : Sg) (t : Tm) (v u : Value) (S T : Nat → Prop) (w : World) (hG : SgR S w g v) (hT : TmR T w t u) (hl1 : g.1.length ≤ 1000000) (hl2 : g.2.length ≤ 1000000) : Calls Tryz.prog 36 #[v, u] w fun e w' => e = .returned (.bool (validF g t)) ∧ Ext w w' := by
  have HST := Lib.hid (fun W (hW : Ext w W) => rsort_x g t v u S T W (hG.ext hW) (hT.ext hW) hl1 hl2)
  obtain ⟨sa, sc, oa, oc, rfl, _, _⟩ := hG
  obtain ⟨a, cap, rfl, _⟩ := hT
  have HZ := Lib.hid (((Upd.refl (fun _ => False) w).alloc (.cells #[.slice sa g.1.length sc, .slice oa g.2.length oc] 42)).alloc (.cells #[.string t.name, .string t.sort, .slice a t.kids.length cap] 24))
  have HBG := Lib.hid (allocOld (alloc0 w (.cells #[.slice sa g.1.length sc, .slice oa g.2.length oc] 42)) (.cells #[.string t.name, .string t.sort, .slice a t.kids.length cap] 24))
  have HBT := Lib.hid (alloc_at (w.alloc (.cells #[.slice sa g.1.length sc, .slice oa g.2.length oc] 42)) (.cells #[.string t.name, .string t.sort, .slice a t.kids.length cap] 24) (n := w.heap.size + 1) (by simp))
  dsimp only [tV] at HST ⊢
  have HV : Hid (validF g t = decide ((sortF g t).2 = 0)) := Lib.hid rfl
  rw [HV.out]
  generalize sortF g t = F at *
  have hb : (F.2 == 0) = decide (F.2 = 0) := by rw [Bool.eq_iff_iff, beq_iff_eq, decide_eq_true_eq]
  have HBB := Lib.hid hb
  clear hb HV
  have c0 := cellRow HBG.out 0 (.slice sa g.1.length sc) rfl
  have c1 := cellRow HBG.out 1 (.slice oa g.2.length oc) rfl
  have t0 := cellRow HBT.out 0 (.string t.name) rfl
  have t1 := cellRow HBT.out 1 (.string t.sort) rfl
  have t2 := cellRow HBT.out 2 (.slice a t.kids.length cap) rfl
  go_enter Tryz.func36, Tryz.ntmps36
  go_wp2_with fail
  refine (HST.out _ HZ.out).mono ?_
  rintro e w4 ⟨rfl, hw4⟩
  have H4 := Lib.hid (HZ.out.trans hw4)
  clear hw4 c0 c1 t0 t1 t2
  go_wp2_with fail
  go_ret
  exact ⟨rfl, H4.out⟩
set_option maxRecDepth 100000 in
set_option maxHeartbeats 2000000 in
theorem rvars_x (t : Tm) (u : Value) (T : Nat → Prop) (w : World) (hT : TmR T w t u) (hw : wf nmB t = true) : Calls Tryz.prog 41 #[u] w fun e w' => ∃ r, e = .returned r ∧ FiR (fun k => False ∨ w.heap.size ≤ k) w' r (varsT t) ∧ Ext w w' := by
  have hv : (vFold [] (vl (sbts t))).2 = true := by
    rw [varsT_ok]
    unfold wf at hw
    rw [Bool.and_eq_true] at hw
    exact hw.2
  have HVX := Lib.hid (fun W (hW : Ext w W) => vars_x t [] (.slice none 0 0) u (fun _ => False) T W (hT.ext hW) (SlR.nil _ _ 2) (formed_VL (wf_formed hw)) (by have := wf_size hw; show 0 + t.size ≤ 100000; omega))
  have HVV := Lib.hid hv
  obtain ⟨a, cap, rfl, _⟩ := hT
  have HZ := Lib.hid ((Upd.refl (fun _ => False) w).alloc (.cells #[.string t.name, .string t.sort, .slice a t.kids.length cap] 24))
  have HB := Lib.hid (alloc0 w (.cells #[.string t.name, .string t.sort, .slice a t.kids.length cap] 24))
  dsimp only [tV] at HVX ⊢
  have t0 := cellRow HB.out 0 (.string t.name) rfl
  have t1 := cellRow HB.out 1 (.string t.sort) rfl
  have t2 := cellRow HB.out 2 (.slice a t.kids.length cap) rfl
  rw [hv] at HVX
  have HVT : Hid ((vFold [] (vl (sbts t))).1 = varsT t) := Lib.hid rfl
  rw [HVT.out] at HVX
  generalize varsT t = L at *
  clear hv hw
  go_enter Tryz.func41, Tryz.ntmps41
  go_wp2_with fail
  refine (HVX.out _ HZ.out).mono ?_
  rintro e w4 ⟨r, rfl, hr, hw4⟩
  have H4 := Lib.hid (HZ.out.trans hw4)
  have HR : Hid (FiR (fun k => False ∨ w.heap.size ≤ k) w4 r L) := Lib.hid ((hr (by simp)).weaken (fun k hk => hk.elim .inl (fun h => .inr (Nat.le_trans HZ.out.size h))))
  obtain ⟨ra, rc, hrv⟩ := HR.out.shape
  subst hrv
  clear hr hw4 t0 t1 t2
  go_wp2_with fail
  go_ret
  exact ⟨_, rfl, HR.out, H4.out⟩

end Go.Proofs.YtjjaknmnhhfjeaaGreatDoor

/- Sort and Valid of the program. -/
namespace Go.Proofs.YtjjaknmnhhfjeaaGreatDoor
open Go.RowKit Go.Hw Go
set_option linter.unusedVariables false
set_option linter.unusedSimpArgs false

open Go.Shelf Tm
attribute [local go_sem] Oper.semAt_some
theorem wrgL_snoc {g : Sg} {l : List Tm} {x : Tm} (h : wrgL g l = 0) : wrgL g (l ++ [x]) = ndE g x := by
  rw [wrgL_app, if_neg (fun h2 => h2 h), wrgL]
  by_cases h3 : ndE g x = 0
  · rw [if_neg (fun h4 => h4 h3), h3]; rfl
  · rw [if_pos h3]
theorem sbts_of {S : Nat → Prop} {w0 : World} {xs : List (NdS S w0)} {t : Tm} (h : xs.map NdS.pr = nodesD 1 t) : xs.map NdS.t = sbts t := by
  have h1 := congrArg (List.map (·.1)) h
  rw [List.map_map] at h1
  unfold sbts
  rw [nodesD_fst t 0 1, ← h1]
  rfl
theorem wrg_pre {g : Sg} {S : Nat → Prop} {w0 : World} {pre : List (NdS S w0)} {t : Tm} (h : pre.map NdS.pr <+: nodesD 1 t) (h2 : wrgL g (pre.map NdS.t) ≠ 0) : wrgT g t = wrgL g (pre.map NdS.t) := by
  obtain ⟨r, hr⟩ := h
  have h1 := congrArg (List.map (·.1)) hr
  rw [List.map_append, List.map_map] at h1
  unfold wrgT sbts
  rw [nodesD_fst t 0 1, ← h1, wrgL_app, if_pos (by exact h2)]
  rfl
theorem resOk_of {g : Sg} (h : vsgB nmB g = true) : ResOk g := by
  unfold vsgB at h
  rw [Bool.and_eq_true, Bool.and_eq_true, Bool.and_eq_true] at h
  obtain ⟨_, _, h1, h2⟩ := h
  have h3 := ((precP_iff nmB g.1).1 h1).2.1
  intro o ho e
  obtain ⟨j, hj, rfl⟩ := List.mem_iff_getElem.1 ho
  have h4 := List.all_eq_true.1 h2 j (List.mem_range.2 hj)
  unfold okD at h4
  rw [Bool.and_eq_true, Bool.and_eq_true, Bool.and_eq_true, Bool.and_eq_true] at h4
  have h5 := of_decide_eq_true h4.2.2.2.1
  rw [dg_at hj, e] at h5
  have h6 := h3 _ h5
  rw [nm_empty nul rfl] at h6
  cases h6
set_option maxRecDepth 100000 in
set_option maxHeartbeats 8000000 in
theorem psort_x (g : Sg) (t : Tm) (v u : Value) (S : Nat → Prop) (w : World) (hG : SgR S w g v) (hS : ∀ k, S k → k < w.heap.size) (hR : TmR (fun k => k < w.heap.size) w t u) (htab : AscT w) (hsz : (t.size : Int) ≤ 1000000000000) (hl1 : g.1.length ≤ 1000000) (hl2 : g.2.length ≤ 1000000) (hl3 : ∀ d ∈ g.2, d.2.1.length ≤ 1000000) :
    Calls Tryz.prog 30 #[v, u] w fun e w' => e = .returned (.tuple #[.string (sortF g t).1, .int .i64 (sortF g t).2]) ∧ Ext w w' := by
  have HVS := Lib.hid (fun W (hW : Ext w W) => pvsig_x g v S W (hG.ext hW) (asc_ext htab hW) hl1 hl2 hl3)
  have HWF := Lib.hid (fun W (hW : Ext w W) => wellFormed_x t u W (asc_ext htab hW) ((hR.ext hW).weaken (fun k hk => Nat.lt_of_lt_of_le hk hW.size)) hsz)
  have HWR := Lib.hid (fun (hr : ResOk g) x y T W (hW : Ext w W) (hx : TmR T W x y) => pwrong_x g x v y S T W (hG.ext hW) (fun k hk => Nat.lt_of_lt_of_le (hS k hk) hW.size) hx hr hl1 hl2 hl3)
  have HOW := Lib.hid (fun W (hW : Ext w W) => pown_x g t v u S _ W (hG.ext hW) (fun k hk => Nat.lt_of_lt_of_le (hS k hk) hW.size) (hR.ext hW) hl2)
  obtain ⟨sa, sc, oa, oc, rfl, _, _⟩ := hG
  obtain ⟨a, cap, rfl, hT⟩ := hR
  dsimp only [tV] at HVS HWF HWR HOW ⊢
  obtain ⟨V, hV⟩ : ∃ V, sortF g t = V := ⟨_, rfl⟩
  have HVV : Hid (V = if vsgB nmB g = false ∨ wf nmB t = false then (nul, 1) else if wrongF g t ≠ 0 then (nul, wrongF g t) else (ownF g t, 0)) := Lib.hid (by rw [← hV]; rfl)
  rw [hV]
  clear hV
  have hE3 : Ext w ((((w.alloc (.cells #[.slice sa g.1.length sc, .slice oa g.2.length oc] 42)).alloc (.cells #[.string t.name, .string t.sort, .slice a t.kids.length cap] 24)).alloc (.cells #[.string ⟨#[]⟩] 9)).alloc (.cells #[.int .i64 0] 28)) := ((((Upd.refl (fun _ => False) w).alloc _).alloc _).alloc _).alloc _
  have hs3 : ((((w.alloc (.cells #[.slice sa g.1.length sc, .slice oa g.2.length oc] 42)).alloc (.cells #[.string t.name, .string t.sort, .slice a t.kids.length cap] 24)).alloc (.cells #[.string ⟨#[]⟩] 9)).alloc (.cells #[.int .i64 0] 28)).heap.size = w.heap.size + 4 := by simp
  have hb0 : ((((w.alloc (.cells #[.slice sa g.1.length sc, .slice oa g.2.length oc] 42)).alloc (.cells #[.string t.name, .string t.sort, .slice a t.kids.length cap] 24)).alloc (.cells #[.string ⟨#[]⟩] 9)).alloc (.cells #[.int .i64 0] 28)).heap[w.heap.size]? = some (.cells #[.slice sa g.1.length sc, .slice oa g.2.length oc] 42 (0, 0)) := allocOld (allocOld (allocOld (alloc0 _ _) _) _) _
  have hb1 : ((((w.alloc (.cells #[.slice sa g.1.length sc, .slice oa g.2.length oc] 42)).alloc (.cells #[.string t.name, .string t.sort, .slice a t.kids.length cap] 24)).alloc (.cells #[.string ⟨#[]⟩] 9)).alloc (.cells #[.int .i64 0] 28)).heap[w.heap.size + 1]? = some (.cells #[.string t.name, .string t.sort, .slice a t.kids.length cap] 24 (0, 0)) := allocOld (allocOld (alloc_at _ _ (by simp)) _) _
  have hb23 : Boxed ((((w.alloc (.cells #[.slice sa g.1.length sc, .slice oa g.2.length oc] 42)).alloc (.cells #[.string t.name, .string t.sort, .slice a t.kids.length cap] 24)).alloc (.cells #[.string ⟨#[]⟩] 9)).alloc (.cells #[.int .i64 0] 28)) (w.heap.size + 1 + 1) 9 (.string ⟨#[]⟩) := allocOld (alloc_at _ _ (by simp)) _
  have hb33 : Boxed ((((w.alloc (.cells #[.slice sa g.1.length sc, .slice oa g.2.length oc] 42)).alloc (.cells #[.string t.name, .string t.sort, .slice a t.kids.length cap] 24)).alloc (.cells #[.string ⟨#[]⟩] 9)).alloc (.cells #[.int .i64 0] 28)) (w.heap.size + 1 + 1 + 1) 28 (.int .i64 0) := alloc_at _ _ (by simp)
  refine (callsIn_wide (n := 9)).1 ?_
  have hro : Fence.wide.round = none := rfl
  have hd : Fence.wide.depth = none := rfl
  have hf : ∀ k, Fence.wide.fn k := fun _ => trivial
  have h1 : 1 ≤ 9 := by omega
  refine callsIn_of_wp_marks Tryz.func30 rfl trivial ?_ hro
  have c0 := cellRow hb0 0 (.slice sa g.1.length sc) rfl
  have c1 := cellRow hb0 1 (.slice oa g.2.length oc) rfl
  have t0 := cellRow hb1 0 (.string t.name) rfl
  have t1 := cellRow hb1 1 (.string t.sort) rfl
  have t2 := cellRow hb1 2 (.slice a t.kids.length cap) rfl
  simp only [Tryz.ntmps30, List.size_toArray, List.length_cons, List.length_nil, Nat.reduceAdd, Nat.reduceSub, Array.replicate_succ, Array.replicate_zero, List.push_toArray, List.append_toArray, List.nil_append, List.cons_append]
  gi_wp2
  generalize ((((w.alloc (.cells #[.slice sa g.1.length sc, .slice oa g.2.length oc] 42)).alloc (.cells #[.string t.name, .string t.sort, .slice a t.kids.length cap] 24)).alloc (.cells #[.string ⟨#[]⟩] 9)).alloc (.cells #[.int .i64 0] 28)) = w3 at *
  generalize hB3 : w.heap.size + 1 + 1 + 1 = B3 at *
  generalize hB2 : w.heap.size + 1 + 1 = B2 at *
  generalize hB1 : w.heap.size + 1 = B1 at *
  generalize hB0 : w.heap.size = B0 at *
  refine (callsIn_wide.2 (HVS.out _ hE3)).mono ?_
  rintro e w4 ⟨rfl, hE4⟩
  have hb04 := hE4.heap hb0 (fun h => h)
  have hb14 := hE4.heap hb1 (fun h => h)
  have hb24 : Boxed w4 B2 9 (.string ⟨#[]⟩) := hE4.heap hb23 (fun h => h)
  have hb34 : Boxed w4 B3 28 (.int .i64 0) := hE4.heap hb33 (fun h => h)
  have hE := hE3.ext hE4
  have hsz4 := hE4.size
  clear c0 c1 t0 t1 t2
  have c0 := cellRow hb04 0 (.slice sa g.1.length sc) rfl
  have c1 := cellRow hb04 1 (.slice oa g.2.length oc) rfl
  have t0 := cellRow hb14 0 (.string t.name) rfl
  have t1 := cellRow hb14 1 (.string t.sort) rfl
  have t2 := cellRow hb14 2 (.slice a t.kids.length cap) rfl
  have r2 := hb24.cell
  have r3 := hb34.cell
  have s2 := hb24.frozen
  have s3 := hb34.frozen
  clear hE4 hE3 hb0 hb1 hb23 hb33
  cases hvs : vsgB nmB g
  · have HV : Hid (V = (nul, 1)) := Lib.hid (by rw [HVV.out, if_pos (.inl hvs)])
    gi_wp2
    have i2 : Boxed (w4.setCell ⟨B2, 0, none⟩ (.string ⟨#[]⟩)) B2 9 (.string ⟨#[]⟩) := setBlock hb24 0 _
    have i3 : Boxed (w4.setCell ⟨B2, 0, none⟩ (.string ⟨#[]⟩)) B3 28 (.int .i64 0) := Boxed.other hb34 (by omega) _
    have i2' : Boxed ((w4.setCell ⟨B2, 0, none⟩ (.string ⟨#[]⟩)).setCell ⟨B3, 0, none⟩ (.int .i64 1)) B2 9 (.string ⟨#[]⟩) := Boxed.other i2 (by omega) _
    have i3' : Boxed ((w4.setCell ⟨B2, 0, none⟩ (.string ⟨#[]⟩)).setCell ⟨B3, 0, none⟩ (.int .i64 1)) B3 28 (.int .i64 1) := setBlock i3 0 _
    have q2 := i2'.cell
    have q3 := i3'.cell
    exact ⟨.tuple #[.string ⟨#[]⟩, .int .i64 1], by simp [results, Tryz.f30, go_sem, q2, q3], by rw [HV.out]; rfl, (hE.setNew (show w.heap.size ≤ B2 by omega) _).setNew (show w.heap.size ≤ B3 by omega) _⟩
  gi_wp2
  refine (callsIn_wide.2 (HWF.out _ hE)).mono ?_
  rintro e w5 ⟨rfl, hE5⟩
  have hb05 := hE5.heap hb04 (fun h => h)
  have hb15 := hE5.heap hb14 (fun h => h)
  have hb25 : Boxed w5 B2 9 (.string ⟨#[]⟩) := hE5.heap hb24 (fun h => h)
  have hb35 : Boxed w5 B3 28 (.int .i64 0) := hE5.heap hb34 (fun h => h)
  have hEb := hE.ext hE5
  have hsz5 := hE5.size
  clear c0 c1 t0 t1 t2 r2 r3 s2 s3 hb04 hb14 hb24 hb34 hE hE5
  have c0 := cellRow hb05 0 (.slice sa g.1.length sc) rfl
  have c1 := cellRow hb05 1 (.slice oa g.2.length oc) rfl
  have t0 := cellRow hb15 0 (.string t.name) rfl
  have t1 := cellRow hb15 1 (.string t.sort) rfl
  have t2 := cellRow hb15 2 (.slice a t.kids.length cap) rfl
  have r2 := hb25.cell
  have r3 := hb35.cell
  have s2 := hb25.frozen
  have s3 := hb35.frozen
  cases hwf : wf nmB t
  · have HV : Hid (V = (nul, 1)) := Lib.hid (by rw [HVV.out, if_pos (.inr hwf)])
    gi_wp2
    have i2 : Boxed (w5.setCell ⟨B2, 0, none⟩ (.string ⟨#[]⟩)) B2 9 (.string ⟨#[]⟩) := setBlock hb25 0 _
    have i3 : Boxed (w5.setCell ⟨B2, 0, none⟩ (.string ⟨#[]⟩)) B3 28 (.int .i64 0) := Boxed.other hb35 (by omega) _
    have i2' : Boxed ((w5.setCell ⟨B2, 0, none⟩ (.string ⟨#[]⟩)).setCell ⟨B3, 0, none⟩ (.int .i64 1)) B2 9 (.string ⟨#[]⟩) := Boxed.other i2 (by omega) _
    have i3' : Boxed ((w5.setCell ⟨B2, 0, none⟩ (.string ⟨#[]⟩)).setCell ⟨B3, 0, none⟩ (.int .i64 1)) B3 28 (.int .i64 1) := setBlock i3 0 _
    have q2 := i2'.cell
    have q3 := i3'.cell
    exact ⟨.tuple #[.string ⟨#[]⟩, .int .i64 1], by simp [results, Tryz.f30, go_sem, q2, q3], by rw [HV.out]; rfl, (hEb.setNew (show w.heap.size ≤ B2 by omega) _).setNew (show w.heap.size ≤ B3 by omega) _⟩
  have HV2 : Hid (V = if wrongF g t ≠ 0 then (nul, wrongF g t) else (ownF g t, 0)) := Lib.hid (by rw [HVV.out, if_neg (by rw [hvs, hwf]; simp)])
  have hro2 := resOk_of hvs
  have HWQ := Lib.hid (wrg_eq g t (wf_nop hwf))
  gi_wp2
  refine (callsIn_wide.2 (nodes_x t (.slice a t.kids.length cap) w5 ⟨_, _, _, rfl⟩)).mono ?_
  rintro e w6 ⟨rfl, hE6, hs6, hb6, hv6⟩
  have hb06 := hE6.heap hb05 (fun h => h)
  have hb16 := hE6.heap hb15 (fun h => h)
  have hb26 : Boxed w6 B2 9 (.string ⟨#[]⟩) := hE6.heap hb25 (fun h => h)
  have hb36 : Boxed w6 B3 28 (.int .i64 0) := hE6.heap hb35 (fun h => h)
  have hEE := hEb.ext hE6
  have hZ0 := hb35.lt
  clear c0 c1 t0 t1 t2 r2 r3 s2 s3 hb05 hb15 hb25 hb35 hEb hE6
  obtain ⟨Z, hZ⟩ : ∃ Z, w5.heap.size = Z := ⟨_, rfl⟩
  rw [hZ] at hs6 hb6 hv6 hsz5 hZ0 ⊢
  gi_wp2
  refine wpIn_rangeFunc_ownH hro h1 (gf := 114) (lb := #[.pointer (some ⟨Z + 1, 0, none⟩), .pointer (some ⟨Z, 0, none⟩)]) rfl trivial (enters_of Tryz.func114 (by kernel_rfl) rfl)
    (nodes_stopsS Fence.wide hd (9 - 1) hf hro (Z + 1) Z (fun k => k = B2 ∨ k = B3) (fun k => k < B0) w6 (by omega) (by omega) (by omega) (by omega) t a cap (hB0 ▸ hT.ext hEE) hv6 hb6 (by omega)) (fun h k => KpG.trans h k) (fun W l o o' _ hl hc _ => KpG.putObj W l o o' hl hc) (Below.refl _ _) (fun _ => rfl)
    (fun pre W => (wrgL g (pre.map NdS.t) = 0 ∧ Boxed W B2 9 (.string ⟨#[]⟩)) ∧ (Boxed W B3 28 (.int .i64 0) ∧ Below B2 w6 W))
    (fun c pre W => ((c = .ret ∧ wrgL g (pre.map NdS.t) ≠ 0) ∧ Boxed W B2 9 (.string ⟨#[]⟩)) ∧ (Boxed W B3 28 (.int .i64 (wrgL g (pre.map NdS.t))) ∧ Below B2 w6 W))
    (OwnFrom.and (OwnFrom.and (ownFrom_pure _ _) (Own.from (boxed_own B2 9 (fun _ => Value.string ⟨#[]⟩)) _)) (OwnFrom.and (Own.from (boxed_own B3 28 (fun _ => Value.int .i64 0)) _) (ownFrom_below (by omega) (by omega))))
    (fun c => OwnFrom.and (OwnFrom.and (ownFrom_pure _ _) (Own.from (boxed_own B2 9 (fun _ => Value.string ⟨#[]⟩)) _)) (OwnFrom.and (Own.from (boxed_own B3 28 (fun pre : List (NdS (fun k => k < B0) w6) => Value.int .i64 (wrgL g (pre.map NdS.t)))) _) (ownFrom_below (by omega) (by omega))))
    ⟨⟨rfl, hb26⟩, hb36, Below.refl _ _⟩
    (fun x a' W => ∃ Bx, W.heap[Bx]? = some (.cells #[.string x.t.name, .string x.t.sort, .slice x.a x.t.kids.length x.cap] 24 (0, 0)) ∧ a' = { tmps := #[(.agg #[.slice sa g.1.length sc, .slice oa g.2.length oc]), (.agg #[.string t.name, .string t.sort, .slice a t.kids.length cap]), .pointer (some ⟨B0, 0, none⟩), .pointer (some ⟨B1, 0, none⟩), .pointer (some ⟨B2, 0, none⟩), .pointer (some ⟨B3, 0, none⟩), .pointer (some ⟨Bx, 0, none⟩), undef, undef, undef, (.agg #[.slice sa g.1.length sc, .slice oa g.2.length oc]), .bool true, .bool false, .bool false, (.agg #[.string t.name, .string t.sort, .slice a t.kids.length cap]), .bool true, .bool false, .bool false, (.agg #[.string t.name, .string t.sort, .slice a t.kids.length cap]), (.func (.func 114) #[] #[.pointer (some ⟨Z + 1, 0, none⟩), .pointer (some ⟨Z, 0, none⟩)]), (.agg #[.string x.t.name, .string x.t.sort, .slice x.a x.t.kids.length x.cap]), .int .i64 (x.d : Int), undef, undef, undef, undef, undef, undef, undef, undef, undef, undef, undef, undef, undef], defers := [] })
    (fun x a' _ X Y row hs hg hr => by
      obtain ⟨Bx, e2, e3⟩ := hs
      refine ⟨Bx, (Upd.of_grown hg).heap e2 (fun e => ?_), e3⟩
      obtain ⟨o, ho, hc⟩ := (hr Bx e.symm).2
      rw [e2] at ho
      cases ho
      cases hc) ?assign ?body ?done ?stop
  case assign =>
    rintro l pre x W K ⟨⟨i0, i1⟩, i2, i3⟩ hK
    dsimp only [NdS.encs, tV]
    have hbx := alloc0 W (.cells #[.string x.t.name, .string x.t.sort, .slice x.a x.t.kids.length x.cap] 24)
    gi_wp2
    exact hK _ _ (keeps_ext _ ((Upd.refl _ W).alloc _)) (KpG.of_ext ((Upd.refl _ W).alloc _)) ⟨⟨i0, i1.alloc _⟩, i2.alloc _, i3.alloc (by have := i3.size; omega) _⟩ ⟨W.heap.size, hbx, rfl⟩
  case body =>
    rintro l pre x a' W hl hrec ⟨⟨i0, i1⟩, i2, i3⟩ ⟨Bx, hbx, rfl⟩ hlt
    have hEW : Ext w W := below_ext (n := B0) ((hB0 ▸ Ext.below hEE).trans (i3.mono (by omega))) (by omega)
    have hUW : Upd (fun k => B2 ≤ k) w6 W := ⟨i3.os, i3.tape, i3.output, i3.size, fun k hk hf => i3.block k (by omega)⟩
    have hb0W := hUW.heap hb06 (by omega)
    have x0 := cellRow hbx 0 (.string x.t.name) rfl
    have x1 := cellRow hbx 1 (.string x.t.sort) rfl
    have x2 := cellRow hbx 2 (.slice x.a x.t.kids.length x.cap) rfl
    have c0 := cellRow hb0W 0 (.slice sa g.1.length sc) rfl
    have c1 := cellRow hb0W 1 (.slice oa g.2.length oc) rfl
    have HN := Lib.hid (HWR.out hro2 x.t (tV x.t (.slice x.a x.t.kids.length x.cap)) (fun k => k < B0) W hEW ⟨x.a, x.cap, rfl, x.ok.kept hUW (fun k hk e => by omega)⟩)
    have HSN := Lib.hid (wrgL_snoc (x := x.t) i0)
    have HI0 := Lib.hid i0
    dsimp only [tV] at HN
    clear hrec i0
    obtain ⟨E, hE⟩ : ∃ E, ndE g x.t = E := ⟨_, rfl⟩
    rw [hE] at HN HSN
    clear hE
    gi_wp2
    refine (CallsIn.inRound l (callsIn_wide.2 HN.out)).mono ?_
    rintro e W2 ⟨rfl, hW2⟩
    have j1 : Boxed W2 B2 9 (.string ⟨#[]⟩) := hW2.heap i1 (fun h => h)
    have j2 : Boxed W2 B3 28 (.int .i64 0) := hW2.heap i2 (fun h => h)
    have j3 : Below B2 w6 W2 := i3.trans ⟨hW2.os, hW2.tape, hW2.output, hW2.size, fun k hk => hW2.block k (by have := i3.size; omega) (fun h => h)⟩
    clear x0 x1 x2 c0 c1 HN
    have hmap : (pre ++ [x]).map NdS.t = pre.map NdS.t ++ [x.t] := by rw [List.map_append]; rfl
    by_cases he : E = 0
    · have y1 : (E == 0) = true := by rw [he]; rfl
      have y2 : (E != 0) = false := by rw [he]; rfl
      have HSN2 : Hid (wrgL g ((pre ++ [x]).map NdS.t) = 0) := Lib.hid (by rw [hmap, HSN.out, he])
      clear he HSN
      gi_wp2
      exact ⟨keeps_ext _ hW2, KpG.of_ext hW2, ⟨HSN2.out, j1⟩, j2, j3⟩
    · have y1 : (E == 0) = false := beq_eq_false_iff_ne.2 he
      have y2 : (E != 0) = true := bne_iff_ne.2 he
      have HSN2 : Hid (wrgL g ((pre ++ [x]).map NdS.t) = E) := Lib.hid (by rw [hmap, HSN.out])
      have HNE := Lib.hid he
      have r2 := j1.cell
      have r3 := j2.cell
      have s2 := j1.frozen
      have s3 := j2.frozen
      clear he HSN
      gi_wp2
      have st := ((Upd.refl (fun k => k = B2 ∨ k = B3) W2).setCell (p := ⟨B2, 0, none⟩) (.inl (.inl rfl)) (.string ⟨#[]⟩)).setCell (p := ⟨B3, 0, none⟩) (.inl (.inr rfl)) (.int .i64 E)
      have u1 : Boxed (W2.setCell ⟨B2, 0, none⟩ (.string ⟨#[]⟩)) B2 9 (.string ⟨#[]⟩) := setBlock j1 0 _
      have u2 : Boxed (W2.setCell ⟨B2, 0, none⟩ (.string ⟨#[]⟩)) B3 28 (.int .i64 0) := Boxed.other j2 (by omega) _
      refine ⟨(keeps_ext _ hW2).trans (keeps_upd _ st (fun k o e ho => ?_)), ⟨⟨rfl, by rw [HSN2.out]; exact HNE.out⟩, Boxed.other u1 (by omega) _⟩, by rw [HSN2.out]; exact setBlock u2 0 _, (j3.setCell (p := ⟨B2, 0, none⟩) (Nat.le_refl _) _).setCell (p := ⟨B3, 0, none⟩) (by show B2 ≤ B3; omega) _⟩
      rcases e with e | e
      · subst e; rw [show W2.heap[k]? = _ from j1] at ho; cases ho; rfl
      · subst e; rw [show W2.heap[k]? = _ from j2] at ho; cases ho; rfl
  case done =>
    rintro D xs W hD hS' ⟨⟨i0, i1⟩, i2, i3⟩ hK
    have hEW : Ext w W := below_ext (n := B0) ((hB0 ▸ Ext.below hEE).trans (i3.mono (by omega))) (by omega)
    have hUW : Upd (fun k => B2 ≤ k) w6 W := ⟨i3.os, i3.tape, i3.output, i3.size, fun k hk hf => i3.block k (by omega)⟩
    have hb0W := hUW.heap hb06 (by omega)
    have hb1W := hUW.heap hb16 (by omega)
    have c0 := cellRow hb0W 0 (.slice sa g.1.length sc) rfl
    have c1 := cellRow hb0W 1 (.slice oa g.2.length oc) rfl
    have t0 := cellRow hb1W 0 (.string t.name) rfl
    have t1 := cellRow hb1W 1 (.string t.sort) rfl
    have t2 := cellRow hb1W 2 (.slice a t.kids.length cap) rfl
    have hw0 : wrongF g t = 0 := by rw [← HWQ.out]; unfold wrgT; rw [← sbts_of hS']; exact i0
    have HV : Hid (V = (ownF g t, 0)) := Lib.hid (by rw [HV2.out, if_neg (fun h => h hw0)])
    have HO := Lib.hid (HOW.out W hEW)
    rw [ownP_fst] at HO
    clear hw0 i0 hS'
    gi_wp2
    refine (callsIn_wide.2 HO.out).mono ?_
    rintro e W2 ⟨rfl, hW2⟩
    have j1 : Boxed W2 B2 9 (.string ⟨#[]⟩) := hW2.heap i1 (fun h => h)
    have j2 : Boxed W2 B3 28 (.int .i64 0) := hW2.heap i2 (fun h => h)
    have hK2 := hW2.heap hK (fun h => h)
    have hE2 := hEW.trans hW2
    have r2 := j1.cell
    have r3 := j2.cell
    have s2 := j1.frozen
    have s3 := j2.frozen
    obtain ⟨o1, ho1⟩ : ∃ o, ownF g t = o := ⟨_, rfl⟩
    rw [ho1] at HV ⊢
    clear c0 c1 t0 t1 t2 HO ho1
    gi_wp2
    have st := ((Upd.refl (fun k => k = B2 ∨ k = B3) W2).setCell (p := ⟨B2, 0, none⟩) (.inl (.inl rfl)) (.string o1)).setCell (p := ⟨B3, 0, none⟩) (.inl (.inr rfl)) (.int .i64 0)
    have hK' := (keeps_upd 0 st (fun k o e ho => by
      rcases e with e | e
      · subst e; rw [show W2.heap[k]? = _ from j1] at ho; cases ho; rfl
      · subst e; rw [show W2.heap[k]? = _ from j2] at ho; cases ho; rfl)).same D _ (Nat.zero_le _) hK2 rfl
    have u1 : Boxed (W2.setCell ⟨B2, 0, none⟩ (.string o1)) B2 9 (.string o1) := setBlock j1 0 _
    have u2 : Boxed (W2.setCell ⟨B2, 0, none⟩ (.string o1)) B3 28 (.int .i64 0) := Boxed.other j2 (by omega) _
    have u3 : Boxed ((W2.setCell ⟨B2, 0, none⟩ (.string o1)).setCell ⟨B3, 0, none⟩ (.int .i64 0)) B2 9 (.string o1) := Boxed.other u1 (by omega) _
    have u4 : Boxed ((W2.setCell ⟨B2, 0, none⟩ (.string o1)).setCell ⟨B3, 0, none⟩ (.int .i64 0)) B3 28 (.int .i64 0) := setBlock u2 0 _
    refine ⟨by simp, .inl ⟨_, _, rfl, run_takeDeferred hK', ?_⟩⟩
    have hc2 := cell_kept u3.cell (grownBy_putObj' _ D (.deferred none)) (fun r e => by cases e; exact ⟨_, hK', rfl⟩)
    have hc3 := cell_kept u4.cell (grownBy_putObj' _ D (.deferred none)) (fun r e => by cases e; exact ⟨_, hK', rfl⟩)
    refine ⟨.tuple #[.string o1, .int .i64 0], by simp [results, Tryz.f30, go_sem, hc2, hc3], by rw [HV.out], ?_⟩
    have hEX : Ext w ((W2.setCell ⟨B2, 0, none⟩ (.string o1)).setCell ⟨B3, 0, none⟩ (.int .i64 0)) := (hE2.setNew (show w.heap.size ≤ B2 by omega) _).setNew (show w.heap.size ≤ B3 by omega) _
    exact hEX.trans' (Upd.of_grown (grownBy_putObj' _ D (.deferred none))) (fun i hi e => by cases e; omega)
  case stop =>
    rintro D c pre W hD hSp ⟨⟨⟨rfl, hbad⟩, i1⟩, i2, i3⟩ hK
    have hEW : Ext w W := below_ext (n := B0) ((hB0 ▸ Ext.below hEE).trans (i3.mono (by omega))) (by omega)
    have hwr := wrg_pre hSp hbad
    rw [HWQ.out] at hwr
    have HV : Hid (V = (nul, wrgL g (pre.map NdS.t))) := Lib.hid (by rw [HV2.out, hwr, if_pos hbad])
    generalize wrgL g (pre.map NdS.t) = E at *
    clear hwr hbad hSp
    gi_wp2
    refine ⟨by simp, .inl ⟨_, _, rfl, run_takeDeferred hK, ?_⟩⟩
    have hc2 := cell_kept i1.cell (grownBy_putObj' _ D (.deferred none)) (fun r e => by cases e; exact ⟨_, hK, rfl⟩)
    have hc3 := cell_kept i2.cell (grownBy_putObj' _ D (.deferred none)) (fun r e => by cases e; exact ⟨_, hK, rfl⟩)
    refine ⟨.tuple #[.string ⟨#[]⟩, .int .i64 E], by simp [results, Tryz.f30, go_sem, hc2, hc3], by rw [HV.out]; rfl, ?_⟩
    exact hEW.trans' (Upd.of_grown (grownBy_putObj' _ D (.deferred none))) (fun i hi e => by cases e; omega)
set_option maxRecDepth 100000 in
set_option maxHeartbeats 2000000 in
theorem pvalid_x (g : Sg) (t : Tm) (v u : Value) (S : Nat → Prop) (w : World) (hG : SgR S w g v) (hS : ∀ k, S k → k < w.heap.size) (hR : TmR (fun k => k < w.heap.size) w t u) (htab : AscT w) (hsz : (t.size : Int) ≤ 1000000000000) (hl1 : g.1.length ≤ 1000000) (hl2 : g.2.length ≤ 1000000) (hl3 : ∀ d ∈ g.2, d.2.1.length ≤ 1000000) :
    Calls Tryz.prog 35 #[v, u] w fun e w' => e = .returned (.bool (validF g t)) ∧ Ext w w' := by
  have HSX := Lib.hid (fun W (hW : Ext w W) => psort_x g t v u S W (hG.ext hW) (fun k hk => Nat.lt_of_lt_of_le (hS k hk) hW.size) ((hR.ext hW).weaken (fun k hk => Nat.lt_of_lt_of_le hk hW.size)) (asc_ext htab hW) hsz hl1 hl2 hl3)
  obtain ⟨sa, sc, oa, oc, rfl, _, _⟩ := hG
  obtain ⟨a, cap, rfl, hT⟩ := hR
  dsimp only [tV] at HSX ⊢
  have HVF : Hid (validF g t = decide ((sortF g t).2 = 0)) := Lib.hid rfl
  have HZ := Lib.hid (((Upd.refl (fun _ => False) w).alloc (.cells #[.slice sa g.1.length sc, .slice oa g.2.length oc] 42)).alloc (.cells #[.string t.name, .string t.sort, .slice a t.kids.length cap] 24))
  have HB1 := Lib.hid (allocOld (alloc0 w (.cells #[.slice sa g.1.length sc, .slice oa g.2.length oc] 42)) (.cells #[.string t.name, .string t.sort, .slice a t.kids.length cap] 24))
  have HB2 := Lib.hid (alloc_at (w.alloc (.cells #[.slice sa g.1.length sc, .slice oa g.2.length oc] 42)) (.cells #[.string t.name, .string t.sort, .slice a t.kids.length cap] 24) (n := w.heap.size + 1) (by simp))
  have c0 := cellRow HB1.out 0 (.slice sa g.1.length sc) rfl
  have c1 := cellRow HB1.out 1 (.slice oa g.2.length oc) rfl
  have t0 := cellRow HB2.out 0 (.string t.name) rfl
  have t1 := cellRow HB2.out 1 (.string t.sort) rfl
  have t2 := cellRow HB2.out 2 (.slice a t.kids.length cap) rfl
  have HSY := Lib.hid (HSX.out _ HZ.out)
  obtain ⟨⟨s1, s2⟩, hs⟩ : ∃ s, sortF g t = s := ⟨_, rfl⟩
  rw [hs] at HSY HVF
  dsimp only at HSY HVF
  obtain ⟨b, hb⟩ : ∃ b, validF g t = b := ⟨_, rfl⟩
  rw [hb] at HVF ⊢
  have e1 : (s2 == 0) = b := by
    rw [HVF.out]
    by_cases h : s2 = 0
    · rw [decide_eq_true h, h]; rfl
    · rw [decide_eq_false h]; exact beq_eq_false_iff_ne.2 h
  clear hs hb HSX HVF hS hT htab
  go_enter Tryz.func35, Tryz.ntmps35
  go_wp2_with fail
  refine HSY.out.mono ?_
  rintro e w4 ⟨rfl, hw4⟩
  have H4 := Lib.hid (HZ.out.trans hw4)
  clear hw4 c0 c1 t0 t1 t2
  go_wp2_with fail
  go_ret
  exact ⟨rfl, H4.out⟩

end Go.Proofs.YtjjaknmnhhfjeaaGreatDoor

/- A Builder of the call's own; numbers. -/
namespace Go.Proofs.YtjjaknmnhhfjeaaGreatDoor
open Go.RowKit Go.Hw Go
set_option linter.unusedVariables false
set_option linter.unusedSimpArgs false

open Tm
def bs (l : List UInt8) : ByteArray := ⟨l.toArray⟩
theorem bs_size (l : List UInt8) : (bs l).size = l.length := by simp [bs, ByteArray.size]
theorem bs_app (a b : List UInt8) : bs a ++ bs b = bs (a ++ b) := by
  apply ByteArray.ext
  simp [bs, ByteArray.data_append]
theorem bs_data (l : List UInt8) : (bs l).data.toList = l := by simp [bs]
theorem bs_of (s : ByteArray) : bs s.data.toList = s := by cases s; simp [bs]
theorem bs_nil : bs [] = ⟨#[]⟩ := rfl
theorem below_tr {a b c : World} (h : Ext a b) (k : Below a.heap.size b c) : Ext a c :=
  ⟨k.os.trans h.os, k.tape.trans h.tape, k.output.trans h.output, Nat.le_trans h.size k.size, fun i hi _ => (k.block i hi).trans (h.block i hi (fun x => x))⟩
/-! ### a Builder of the call's own -/
def BdR (B b : Nat) (l : List UInt8) (w : World) : Prop := Lib.IsBuilder 120 5 B b (Lib.byteCells l) w
theorem BdR.new (B : Nat) (w : World) (h : B ≤ w.heap.size) : BdR B w.heap.size [] (w.alloc (.cells #[.pointer none, .slice none 0 0] 120)) :=
  Or.inl ⟨h, .slice none 0 0, alloc0 w _, World.ownsRow_nil _ _ _ _, by simp [Value.ownBlock]⟩
theorem BdR.at_ext {B b : Nat} {p : Value} {l : List Value} {w w' : World} (h : Lib.BuilderAt 120 5 B b p l w) (hb : Ext w w') : Lib.BuilderAt 120 5 B b p l w' := by
  obtain ⟨h1, v, h2, h3, h4⟩ := h
  exact ⟨h1, v, hb.heap h2 (fun h => h), own_kept h3 hb (fun _ _ h => h), h4⟩
theorem BdR.ext {B b : Nat} {l : List UInt8} {w w' : World} (h : BdR B b l w) (hb : Ext w w') : BdR B b l w' := by
  rcases h with h | h
  · exact Or.inl (BdR.at_ext h hb)
  · exact Or.inr (BdR.at_ext h hb)
theorem infoU8 : (Tryz.prog.info? 5).map (fun i => (i.zero, i.size, i.bytes)) = some (some (.int .u8 0), 1, 1) := by kernel_rfl
theorem infoBd : (Tryz.prog.info? 120).map (·.size) = some 2 := by kernel_rfl
set_option maxRecDepth 100000 in
set_option maxHeartbeats 1000000 in
theorem ccheck_x (B b : Nat) (bs : List Value) (w : World) (h : Lib.IsBuilder 120 5 B b bs w) :
    Calls Tryz.prog 107 #[.pointer (some ⟨b, 0, none⟩)] w fun e w' => e = .returned (.tuple #[]) ∧ Lib.BuilderAt 120 5 B b (.pointer (some ⟨b, 0, none⟩)) bs w' ∧ Below B w w' := by
  obtain ⟨j, hj, hjs⟩ := Option.map_eq_some_iff.1 infoBd
  have HH := Lib.hid h
  rcases h with h | h
  · have c0 := h.cell0
    have f0 := h.frozen0
    have HS := Lib.hid h.shape
    have hcv := Lib.run_to_unsafe (P := Tryz.prog) w ⟨b, 0, none⟩ Tryz.underlying117 Tryz.underlying181 hj (by rw [hjs]; decide) HS.out (Nat.zero_lt_succ 1)
    have HX := Lib.hid h
    clear h
    go_enter Tryz.func107, Tryz.ntmps107
    go_wp2_with fail
    rw [run_callFunc_extern Tryz.func131 (by kernel_rfl) (by kernel_rfl) (by kernel_rfl) (e := Extern.AbiNoEscape.same) (by kernel_rfl), Lib.run_noEscape]
    simp only [Result.andThen]
    rw [Oper.upon_value]
    go_wp2_with fail
    rw [Lib.run_from_unsafe (P := Tryz.prog) w ⟨b, 0, none⟩ Tryz.underlying181 Tryz.underlying117 hj HS.out (by kernel_rfl)]
    simp only [Result.andThen]
    rw [Oper.upon_value]
    go_wp2_with fail
    go_end0
    exact ⟨rfl, HX.out.used _, (Below.refl B w).setCell (p := ⟨b, 0, none⟩) HX.out.1 _⟩
  · have c0 := h.cell0
    have hq := Lib.run_neq_ptr_same (P := Tryz.prog) w ⟨b, 0, none⟩ Tryz.underlying117 hj
    have HX := Lib.hid h
    clear h
    go_enter Tryz.func107, Tryz.ntmps107
    go_wp2_with fail
    go_end0
    exact ⟨rfl, HX.out, Below.refl B _⟩
set_option maxHeartbeats 1000000 in
theorem write_x (B b : Nat) (l m : List UInt8) (w : World) (h : BdR B b l w) (hlen : l.length + m.length ≤ 140737488355328) (hB : B ≤ w.heap.size) :
    Calls Tryz.prog 69 #[.pointer (some ⟨b, 0, none⟩), .string (bs m)] w fun e w' => e = .returned (.tuple #[.int .i64 m.length, .nilIface]) ∧ BdR B b (l ++ m) w' ∧ Below B w w' := by
  obtain ⟨i0, hi, hz0, hz1, hz2⟩ := info_parts infoU8
  have H0 := Lib.hid h
  clear h
  have hsz := bs_size m
  generalize hm : bs m = s at *
  have HM := Lib.hid hm
  clear hm
  go_enter Tryz.func69, Tryz.ntmps69
  go_wp2_with fail
  refine (ccheck_x B b _ _ H0.out).mono ?_
  rintro e w1 ⟨rfl, h1, hb1⟩
  obtain ⟨hB1, v, hbk, hown, hne⟩ := h1
  have HOWN := Lib.hid hown
  obtain ⟨va, vc, hvs⟩ := own_shape hown
  clear hown
  subst hvs
  have c0 := cellRow hbk 0 _ rfl
  have c1 := cellRow hbk 1 _ rfl
  have HBK := Lib.hid hbk
  have HNE := Lib.hid hne
  clear hbk hne
  go_wp2_with (at_builtin; refine Lib.wpList_append_own_string _ rfl _ _ 118 9 rfl B 5 i0 Tryz.underlying118 Tryz.underlying9 hi hz0 hz1 hz2 _ _ _ rfl HOWN.out s rfl ?c3 ?c4 ?c5 ?_)
  case c3 => rw [Lib.byteCells_length]; unfold maxLen; omega
  case c4 => rw [Lib.byteCells_length]; omega
  case c5 => have := hb1.size; omega
  intro v' w2 hown' hgrow _
  have hlt : b < w1.heap.size := (Array.getElem?_eq_some_iff.1 HBK.out).1
  have hb2 : w2.heap[b]? = some (.cells #[.pointer (some ⟨b, 0, none⟩), .slice va (Lib.byteCells l).length vc] 120 (0, 0)) := by
    rw [hgrow.block b hlt (fun e => HNE.out e.symm)]
    exact HBK.out
  have HB2 := Lib.hid hb2
  have d1 := cellRow hb2 1 _ rfl
  have f1 := frozenRow hb2 1
  have HO := Lib.hid hown'
  obtain ⟨xa, xc, hxs⟩ := own_shape hown'
  subst hxs
  have HG := Lib.hid hgrow
  clear hown' hb2 hgrow c0 c1
  go_wp2_with fail
  go_ret2
  refine ⟨rfl, Or.inr ?_, ?_⟩
  · have h8 := HO.out
    rw [← HM.out, Lib.strCells_eq, bs_data] at h8
    refine Lib.BuilderAt.put (T := 120) (e := 5) hB1 HB2.out (bs' := Lib.byteCells (l ++ m)) ?_ (by decide)
    rw [show Lib.byteCells (l ++ m) = Lib.byteCells l ++ Lib.byteCells m by simp [Lib.byteCells]]
    rw [List.length_append, Lib.byteCells_length m]
    exact h8
  · exact (hb1.grown HG.out (by have := hb1.size; omega) (fun k hk => (HOWN.out.lt k hk).1)).setCell (p := ⟨b, 1, none⟩) hB1 _
theorem bstr_x (B b : Nat) (l : List UInt8) (w : World) (h : BdR B b l w) (hB : B ≤ w.heap.size) :
    Calls Tryz.prog 72 #[.pointer (some ⟨b, 0, none⟩)] w fun e w' => e = .returned (.string (bs l)) ∧ Below B w w' :=
  Tryz.Builder_String_any B b l w h hB

/-! ### numbers -/
def numG : Sg := ([⟨#[110, 97, 116]⟩], [(⟨#[122, 101, 114, 111]⟩, [], ⟨#[110, 97, 116]⟩), (⟨#[115]⟩, [⟨#[110, 97, 116]⟩], ⟨#[110, 97, 116]⟩)])
set_option maxRecDepth 100000 in
set_option maxHeartbeats 2000000 in
theorem numbers_x (w : World) : Calls Tryz.prog 44 #[] w fun e w' => ∃ v, e = .returned v ∧ SgR (fun k => w.heap.size ≤ k ∧ k < w'.heap.size) w' numG v ∧ Ext w w' := by
  have HE := Lib.hid (((((Upd.refl (fun _ => False) w).alloc (.cells #[.slice (some ⟨w.heap.size + 1, 0, none⟩) 1 1, .slice (some ⟨w.heap.size + 1 + 1 + 1, 0, none⟩) 2 2] 42)).alloc (.cells #[.string ⟨#[110, 97, 116]⟩] 9)).alloc (.cells #[.string ⟨#[110, 97, 116]⟩] 9)).alloc (.cells #[.string ⟨#[122, 101, 114, 111]⟩, .slice none 0 0, .string ⟨#[110, 97, 116]⟩, .string ⟨#[115]⟩, .slice (some ⟨w.heap.size + 1 + 1, 0, none⟩) 1 1, .string ⟨#[110, 97, 116]⟩] 96))
  have HB0 := Lib.hid (allocOld (allocOld (allocOld (alloc0 w (.cells #[.slice (some ⟨w.heap.size + 1, 0, none⟩) 1 1, .slice (some ⟨w.heap.size + 1 + 1 + 1, 0, none⟩) 2 2] 42)) (.cells #[.string ⟨#[110, 97, 116]⟩] 9)) (.cells #[.string ⟨#[110, 97, 116]⟩] 9)) (.cells #[.string ⟨#[122, 101, 114, 111]⟩, .slice none 0 0, .string ⟨#[110, 97, 116]⟩, .string ⟨#[115]⟩, .slice (some ⟨w.heap.size + 1 + 1, 0, none⟩) 1 1, .string ⟨#[110, 97, 116]⟩] 96))
  have HB1 := Lib.hid (allocOld (allocOld (alloc_at (w.alloc (.cells #[.slice (some ⟨w.heap.size + 1, 0, none⟩) 1 1, .slice (some ⟨w.heap.size + 1 + 1 + 1, 0, none⟩) 2 2] 42)) (.cells #[.string ⟨#[110, 97, 116]⟩] 9) (n := w.heap.size + 1) (by simp)) (.cells #[.string ⟨#[110, 97, 116]⟩] 9)) (.cells #[.string ⟨#[122, 101, 114, 111]⟩, .slice none 0 0, .string ⟨#[110, 97, 116]⟩, .string ⟨#[115]⟩, .slice (some ⟨w.heap.size + 1 + 1, 0, none⟩) 1 1, .string ⟨#[110, 97, 116]⟩] 96))
  have HB2 := Lib.hid (allocOld (alloc_at ((w.alloc (.cells #[.slice (some ⟨w.heap.size + 1, 0, none⟩) 1 1, .slice (some ⟨w.heap.size + 1 + 1 + 1, 0, none⟩) 2 2] 42)).alloc (.cells #[.string ⟨#[110, 97, 116]⟩] 9)) (.cells #[.string ⟨#[110, 97, 116]⟩] 9) (n := w.heap.size + 1 + 1) (by simp)) (.cells #[.string ⟨#[122, 101, 114, 111]⟩, .slice none 0 0, .string ⟨#[110, 97, 116]⟩, .string ⟨#[115]⟩, .slice (some ⟨w.heap.size + 1 + 1, 0, none⟩) 1 1, .string ⟨#[110, 97, 116]⟩] 96))
  have HB3 := Lib.hid (alloc_at (((w.alloc (.cells #[.slice (some ⟨w.heap.size + 1, 0, none⟩) 1 1, .slice (some ⟨w.heap.size + 1 + 1 + 1, 0, none⟩) 2 2] 42)).alloc (.cells #[.string ⟨#[110, 97, 116]⟩] 9)).alloc (.cells #[.string ⟨#[110, 97, 116]⟩] 9)) (.cells #[.string ⟨#[122, 101, 114, 111]⟩, .slice none 0 0, .string ⟨#[110, 97, 116]⟩, .string ⟨#[115]⟩, .slice (some ⟨w.heap.size + 1 + 1, 0, none⟩) 1 1, .string ⟨#[110, 97, 116]⟩] 96) (n := w.heap.size + 1 + 1 + 1) (by simp))
  have HSZ : Hid (((((w.alloc (.cells #[.slice (some ⟨w.heap.size + 1, 0, none⟩) 1 1, .slice (some ⟨w.heap.size + 1 + 1 + 1, 0, none⟩) 2 2] 42)).alloc (.cells #[.string ⟨#[110, 97, 116]⟩] 9)).alloc (.cells #[.string ⟨#[110, 97, 116]⟩] 9)).alloc (.cells #[.string ⟨#[122, 101, 114, 111]⟩, .slice none 0 0, .string ⟨#[110, 97, 116]⟩, .string ⟨#[115]⟩, .slice (some ⟨w.heap.size + 1 + 1, 0, none⟩) 1 1, .string ⟨#[110, 97, 116]⟩] 96)).heap.size = w.heap.size + 4) := Lib.hid (by simp)
  have e0 := cellRow HB0.out 0 _ rfl
  have e1 := cellRow HB0.out 1 _ rfl
  go_enter Tryz.func44, Tryz.ntmps44
  go_wp2_with fail
  generalize ((((w.alloc (.cells #[.slice (some ⟨w.heap.size + 1, 0, none⟩) 1 1, .slice (some ⟨w.heap.size + 1 + 1 + 1, 0, none⟩) 2 2] 42)).alloc (.cells #[.string ⟨#[110, 97, 116]⟩] 9)).alloc (.cells #[.string ⟨#[110, 97, 116]⟩] 9)).alloc (.cells #[.string ⟨#[122, 101, 114, 111]⟩, .slice none 0 0, .string ⟨#[110, 97, 116]⟩, .string ⟨#[115]⟩, .slice (some ⟨w.heap.size + 1 + 1, 0, none⟩) 1 1, .string ⟨#[110, 97, 116]⟩] 96)) = w1 at *
  refine bodyPost_ret (v := .agg #[.slice (some ⟨w.heap.size + 1, 0, none⟩) 1 1, .slice (some ⟨w.heap.size + 1 + 1 + 1, 0, none⟩) 2 2]) (by simp [results, Tryz.results44, go_sem, e0, e1]) rfl ?_
  have hb1 := HB1.out
  have hb2 := HB2.out
  have hb3 := HB3.out
  have hsz1 := HSZ.out
  refine ⟨_, rfl, ⟨some ⟨w.heap.size + 1, 0, none⟩, 1, some ⟨w.heap.size + 1 + 1 + 1, 0, none⟩, 2, rfl, ?_, ?_⟩, HE.out⟩
  · refine SlR.mk' rfl rfl (by decide) (fun _ => ⟨by omega, by omega⟩) (fun j hj => ?_)
    have hj0 : j = 0 := by have : numG.1.length = 1 := rfl; omega
    subst hj0
    exact cellRow hb1 0 _ rfl
  · refine ⟨[.slice none 0 0, .slice (some ⟨w.heap.size + 1 + 1, 0, none⟩) 1 1], SlR.mk' rfl rfl (by decide) (fun _ => ⟨by omega, by omega⟩) (fun j hj => ?_), fun i hi => ?_⟩
    · have hj6 : j < 6 := hj
      rcases j with _ | _ | _ | _ | _ | _ | j
      · exact cellRow hb3 0 _ rfl
      · exact cellRow hb3 1 _ rfl
      · exact cellRow hb3 2 _ rfl
      · exact cellRow hb3 3 _ rfl
      · exact cellRow hb3 4 _ rfl
      · exact cellRow hb3 5 _ rfl
      · omega
    · have hi2 : i < 2 := hi
      rcases i with _ | _ | i
      · exact SlR.nil _ _ _
      · refine SlR.mk' (g := w.heap.size + 1 + 1) (off := 0) (cap := 1) rfl rfl (by decide) (fun _ => ⟨by omega, by omega⟩) (fun j hj => ?_)
        have hj0 : j = 0 := by have : (dg numG.2 (0 + 1)).2.1.length = 1 := rfl; omega
        subst hj0
        exact cellRow hb2 0 _ rfl
      · omega

end Go.Proofs.YtjjaknmnhhfjeaaGreatDoor

/- fit and TextSignature of the program. -/
namespace Go.Proofs.YtjjaknmnhhfjeaaGreatDoor
open Go.RowKit Go.Hw Go
set_option linter.unusedVariables false
set_option linter.unusedSimpArgs false

open Tm
def sepL : List UInt8 := [44, 32]
def joinB (l : List By) : List UInt8 := Lib.join (l.map (·.data.toList)) sepL
def sortT (s : By) : List UInt8 := [115, 111, 114, 116, 32] ++ (s.data.toList ++ [10])
def declT (d : Dc) : List UInt8 := [111, 112, 32] ++ (d.1.data.toList ++ ([40] ++ (joinB d.2.1 ++ ([41, 32, 45, 62, 32] ++ (d.2.2.data.toList ++ [10])))))
def tsgL (g : Sg) : List UInt8 := g.1.flatMap sortT ++ g.2.flatMap declT
def fitF (l : List UInt8) : By × Int := if 65536 < l.length then (nul, 4) else (bs l, 0)
def tsgF (g : Sg) : By × Int := if vsgB nmB g = false then (nul, 1) else fitF (tsgL g)
theorem joinTail_len (r : List By) : (Lib.joinTail sepL (r.map (·.data.toList))).length = (r.map fun s => s.size + 2).sum := by
  induction r with
  | nil => rfl
  | cons a r ih =>
    unfold Lib.joinTail at *
    simp only [List.map_cons, List.flatten_cons, List.length_append, List.sum_cons, ih]
    have : a.data.toList.length = a.size := rfl
    have h2 : sepL.length = 2 := rfl
    omega
theorem joinB_len (l : List By) (h : ∀ s ∈ l, s.size ≤ 40) : (joinB l).length ≤ 42 * l.length := by
  have key : ∀ r : List By, (∀ s ∈ r, s.size ≤ 40) → (r.map fun s => s.size + 2).sum ≤ 42 * r.length := by
    intro r
    induction r with
    | nil => intro _; simp
    | cons a r ih =>
      intro h
      have h1 := ih (fun s hs => h s (List.mem_cons_of_mem _ hs))
      have h2 := h a (List.mem_cons_self ..)
      simp only [List.map_cons, List.sum_cons, List.length_cons]
      omega
  cases l with
  | nil => simp [joinB, Lib.join_nil]
  | cons a r =>
    unfold joinB
    rw [List.map_cons, Lib.join_cons, List.length_append, joinTail_len]
    have h1 := key r (fun s hs => h s (List.mem_cons_of_mem _ hs))
    have h2 : a.data.toList.length ≤ 40 := h a (List.mem_cons_self ..)
    simp only [List.length_cons]
    omega
theorem nm_size {s : By} (h : nmB s = true) : s.size ≤ 40 := by
  unfold nmB at h
  rw [Bool.and_eq_true] at h
  exact (of_decide_eq_true h.1).2
theorem vsg_sizes {g : Sg} (h : vsgB nmB g = true) : (∀ s ∈ g.1, s.size ≤ 40) ∧ g.1.length ≤ 40 ∧ g.2.length ≤ 100 ∧ ∀ d ∈ g.2, d.1.size ≤ 40 ∧ d.2.1.length ≤ 6 ∧ d.2.2.size ≤ 40 ∧ ∀ s ∈ d.2.1, s.size ≤ 40 := by
  unfold vsgB at h
  rw [Bool.and_eq_true, Bool.and_eq_true, Bool.and_eq_true, decide_eq_true_eq, decide_eq_true_eq] at h
  obtain ⟨k1, k2, h1, h2⟩ := h
  have h3 := ((precP_iff nmB g.1).1 h1).2.1
  refine ⟨fun s hs => nm_size (h3 s hs), k1, k2, fun d hd => ?_⟩
  obtain ⟨j, hj, rfl⟩ := List.mem_iff_getElem.1 hd
  have h4 := List.all_eq_true.1 h2 j (List.mem_range.2 hj)
  unfold okD at h4
  rw [Bool.and_eq_true, Bool.and_eq_true, Bool.and_eq_true, Bool.and_eq_true, dg_at hj] at h4
  obtain ⟨a1, a2, a3, a4, a5⟩ := h4
  exact ⟨nm_size a1, of_decide_eq_true a3, nm_size (h3 _ (of_decide_eq_true a4)), fun s hs => nm_size (h3 _ (of_decide_eq_true (List.all_eq_true.1 a5 s hs)))⟩
theorem declT_len (d : Dc) (h : d.1.size ≤ 40 ∧ d.2.1.length ≤ 6 ∧ d.2.2.size ≤ 40 ∧ ∀ s ∈ d.2.1, s.size ≤ 40) : (declT d).length ≤ 400 := by
  have h1 := joinB_len d.2.1 h.2.2.2
  have h2 : d.1.data.toList.length ≤ 40 := h.1
  have h3 : d.2.2.data.toList.length ≤ 40 := h.2.2.1
  unfold declT
  simp only [List.length_append, List.length_cons, List.length_nil]
  omega
theorem flat_len {α : Type} (f : α → List UInt8) (n : Nat) : ∀ l : List α, (∀ x ∈ l, (f x).length ≤ n) → (l.flatMap f).length ≤ n * l.length
  | [], _ => by simp
  | a :: l, h => by
    have h1 := flat_len f n l (fun x hx => h x (List.mem_cons_of_mem _ hx))
    have h2 := h a (List.mem_cons_self ..)
    rw [List.flatMap_cons, List.length_append, List.length_cons, Nat.mul_succ]
    omega
theorem flatB_snoc {α : Type} (f : α → List UInt8) (l : List α) (k : Nat) (d : α) (h : k < l.length) : (l.take (k + 1)).flatMap f = (l.take k).flatMap f ++ f (l.getD k d) := by
  rw [List.take_add_one, List.flatMap_append, List.getD_eq_getElem?_getD, List.getElem?_eq_getElem h]
  simp
set_option maxRecDepth 100000 in
set_option maxHeartbeats 2000000 in
theorem fit_x (l : List UInt8) (w : World) : Calls Tryz.prog 71 #[.string (bs l)] w fun e w' => e = .returned (.tuple #[.string (fitF l).1, .int .i64 (fitF l).2]) ∧ Ext w w' := by
  have hs := bs_size l
  have HV : Hid (fitF l = if 65536 < l.length then (nul, 4) else (bs l, 0)) := Lib.hid rfl
  obtain ⟨V, hV⟩ : ∃ V, fitF l = V := ⟨_, rfl⟩
  rw [hV] at HV ⊢
  clear hV
  obtain ⟨x, hx⟩ : ∃ x, bs l = x := ⟨_, rfl⟩
  rw [hx] at HV hs ⊢
  clear hx
  have HE : Hid (Ext w w) := Lib.hid (Upd.refl _ _)
  by_cases h : 65536 < l.length
  · have HV : Hid (V = (nul, 4)) := Lib.hid (by rw [HV.out, if_pos h])
    have z1 : (65536 : Int) < (x.size : Int) := by omega
    have z1' : decide ((65536 : Int) < (x.size : Int)) = true := decide_eq_true z1
    clear h hs
    go_enter Tryz.func71, Tryz.ntmps71
    go_wp2_with fail
    go_ret2
    rw [HV.out]
    exact ⟨rfl, HE.out⟩
  · have HV : Hid (V = (x, 0)) := Lib.hid (by rw [HV.out, if_neg h])
    have z1 : ¬ (65536 : Int) < (x.size : Int) := by omega
    have z1' : decide ((65536 : Int) < (x.size : Int)) = false := decide_eq_false z1
    clear h hs
    go_enter Tryz.func71, Tryz.ntmps71
    go_wp2_with fail
    go_ret2
    rw [HV.out]
    exact ⟨rfl, HE.out⟩
theorem join_x (l : List By) (v : Value) (S : Nat → Prop) (w : World) (hR : StrR S w v l) (hS : ∀ k, S k → k < w.heap.size) (hl : l.length ≤ 1000000) (hs : (joinB l).length ≤ 140737488355328) :
    Calls Tryz.prog 70 #[v, .string (bs sepL)] w fun e w' => e = .returned (.string (bs (joinB l))) ∧ Ext w w' := by
  obtain ⟨a, cap, rfl⟩ := SlR.shape hR
  by_cases h0 : 0 < l.length
  · obtain ⟨g, off, hga, hSg, hat⟩ := SlR.one_at (d := nul) hR h0
    subst hga
    refine (Tryz.strings_Join g off cap l (bs sepL) w (fun j x hx => ?_) (hS _ hSg) (by omega) (SlR.le_cap hR rfl) hs).mono ?_
    · have hj := (List.getElem?_eq_some_iff.1 hx).1
      rw [hat j hj, List.getD_eq_getElem?_getD, hx]; rfl
    · rintro e w' ⟨rfl, hb⟩
      exact ⟨rfl, below_tr (Upd.refl _ _) hb⟩
  · have hl0 : l = [] := List.eq_nil_of_length_eq_zero (by omega)
    subst hl0
    refine (Tryz.strings_Join_none a cap (bs sepL) w).mono ?_
    rintro e w' ⟨rfl, rfl⟩
    exact ⟨rfl, Upd.refl _ _⟩
set_option maxRecDepth 100000 in
set_option maxHeartbeats 2000000 in
theorem tsig_x (g : Sg) (v : Value) (S : Nat → Prop) (w : World) (hG : SgR S w g v) (hS : ∀ k, S k → k < w.heap.size) (htab : AscT w) (hl1 : g.1.length ≤ 1000000) (hl2 : g.2.length ≤ 1000000) (hl3 : ∀ d ∈ g.2, d.2.1.length ≤ 1000000) :
    Calls Tryz.prog 22 #[v] w fun e w' => e = .returned (.tuple #[.string (tsgF g).1, .int .i64 (tsgF g).2]) ∧ Ext w w' := by
  have HVS := Lib.hid (fun W (hW : Ext w W) => pvsig_x g v S W (hG.ext hW) (asc_ext htab hW) hl1 hl2 hl3)
  obtain ⟨sa, sc, oa, oc, rfl, hS1, hD⟩ := hG
  have HS1 := Lib.hid hS1
  have HD := Lib.hid hD
  have HSS := Lib.hid hS
  have HZ := Lib.hid ((Upd.refl (fun _ => False) w).alloc (.cells #[.slice sa g.1.length sc, .slice oa g.2.length oc] 42))
  have HB := Lib.hid (alloc0 w (.cells #[.slice sa g.1.length sc, .slice oa g.2.length oc] 42))
  have c0 := cellRow HB.out 0 (.slice sa g.1.length sc) rfl
  have c1 := cellRow HB.out 1 (.slice oa g.2.length oc) rfl
  have HVV : Hid (tsgF g = if vsgB nmB g = false then (nul, 1) else fitF (tsgL g)) := Lib.hid rfl
  obtain ⟨V, hV⟩ : ∃ V, tsgF g = V := ⟨_, rfl⟩
  rw [hV] at HVV ⊢
  have HCV := Lib.hid (HVS.out _ HZ.out)
  clear hS1 hD hV htab hl3 hS
  obtain ⟨b0, hb0⟩ : ∃ b0, w.heap.size = b0 := ⟨_, rfl⟩
  try rw [hb0] at HB
  cases hvs : vsgB nmB g
  · have HV : Hid (V = (nul, 1)) := Lib.hid (by rw [HVV.out, if_pos hvs])
    rw [hvs] at HCV
    clear hvs
    go_enter Tryz.func22, Tryz.ntmps22
    go_wp2_with fail
    refine HCV.out.mono ?_
    rintro e w4 ⟨rfl, hw4⟩
    have H4 := Lib.hid (HZ.out.trans hw4)
    clear hw4 c0 c1
    go_wp2_with fail
    go_ret2
    rw [HV.out]
    exact ⟨rfl, H4.out⟩
  have HV2 : Hid (V = fitF (tsgL g)) := Lib.hid (by rw [HVV.out, if_neg (by rw [hvs]; decide)])
  obtain ⟨hz1, hz2, hz3, hz4⟩ := vsg_sizes hvs
  have HZ1 := Lib.hid hz1
  have HZ4 := Lib.hid hz4
  have HT1 : Hid (∀ k, ((g.1.take k).flatMap sortT).length ≤ 4000) := Lib.hid (fun k => by
    have h1 := flat_len sortT 46 (g.1.take k) (fun x hx => by
      have h2 := hz1 x (List.mem_of_mem_take hx)
      have h3 : x.data.toList.length = x.size := rfl
      unfold sortT
      simp only [List.length_append, List.length_cons, List.length_nil]
      omega)
    have h4 : (g.1.take k).length ≤ 40 := by rw [List.length_take]; omega
    omega)
  have HT2 : Hid (∀ k, ((g.2.take k).flatMap declT).length ≤ 40000) := Lib.hid (fun k => by
    have h1 := flat_len declT 400 (g.2.take k) (fun x hx => declT_len x (hz4 x (List.mem_of_mem_take hx)))
    have h4 : (g.2.take k).length ≤ 100 := by rw [List.length_take]; omega
    omega)
  rw [hvs] at HCV
  clear hvs HVV HVS hz1 hz4
  go_enter Tryz.func22, Tryz.ntmps22
  go_wp2_with fail
  refine HCV.out.mono ?_
  rintro e w4 ⟨rfl, hw4⟩
  have H4 := Lib.hid (HZ.out.trans hw4)
  have HBG4 := Lib.hid (hw4.heap HB.out (fun h => h))
  have HB5 : Hid (BdR w4.heap.size w4.heap.size [] (w4.alloc (.cells #[.pointer none, .slice none 0 0] 120))) := BdR.new _ _ (Nat.le_refl _)
  have HE5 : Hid (Ext w4 (w4.alloc (.cells #[.pointer none, .slice none 0 0] 120))) := (Upd.refl _ w4).alloc _
  have HBG5 := Lib.hid (HE5.out.heap HBG4.out (fun h => h))
  clear hw4 c0 c1 HCV
  have c0 := cellRow HBG5.out 0 (.slice sa g.1.length sc) rfl
  go_wp2_with fail
  try rw [hb0]
  generalize (w4.alloc (.cells #[.pointer none, .slice none 0 0] 120)) = w5 at *
  clear c0
  obtain ⟨nb, hnb⟩ : ∃ nb, w4.heap.size = nb := ⟨_, rfl⟩
  rw [hnb] at HB5
  try rw [hnb]
  have HNB := Lib.hid hnb
  clear hnb
  go_loopg [15] g.1.length (fun gk iv wr => ∃ k : Nat, iv = .int .i64 (k : Int) ∧ gk = g.1.length - k ∧ k ≤ g.1.length ∧ Hid (BdR nb nb ((g.1.take k).flatMap sortT) wr) ∧ Hid (Ext w4 wr))
  case atStart => exact ⟨0, rfl, rfl, Nat.zero_le _, Lib.hid (by simpa using HB5.out), HE5⟩
  case round =>
    clear HB5 HE5
    obtain ⟨k, rfl, rfl, hk, HBd, HE⟩ := hrel
    have hsz8 := HE.out.size
    have hl8 := HT1.out k
    by_cases hlt : k < g.1.length
    · obtain ⟨gg, off, hga, _, hat⟩ := StR.at_ (StR.ext HS1.out (H4.out.trans HE.out)) (by omega)
      subst hga
      have q0 := hat k hlt
      have z0 : (0 : Int) ≤ (k : Int) := by omega
      have z1 : (k : Int) < (g.1.length : Int) := by omega
      have z2 : decide ((k : Int) < (g.1.length : Int)) = true := decide_eq_true z1
      have z2' : decide (k < g.1.length) = true := decide_eq_true hlt
      have hxs := HZ1.out (bg g.1 k) (by rw [bg_at _ _ hlt]; exact List.getElem_mem hlt)
      have HFS := Lib.hid (flatB_snoc sortT g.1 k nul hlt)
      obtain ⟨x, hx⟩ : ∃ x, bg g.1 k = x := ⟨_, rfl⟩
      rw [show g.1.getD k nul = x from hx] at HFS
      rw [hx] at q0 hxs
      clear hat hx
      obtain ⟨R1, hR1⟩ : ∃ R, (⟨#[115, 111, 114, 116, 32]⟩ : ByteArray) ++ x = R := ⟨_, rfl⟩
      obtain ⟨R2, hR2⟩ : ∃ R, R1 ++ (⟨#[10]⟩ : ByteArray) = R := ⟨_, rfl⟩
      have HR : Hid (R2 = bs (sortT x)) := Lib.hid (by
        rw [← hR2, ← hR1]
        have e1 : (⟨#[115, 111, 114, 116, 32]⟩ : ByteArray) = bs [115, 111, 114, 116, 32] := rfl
        have e2 : (⟨#[10]⟩ : ByteArray) = bs [10] := rfl
        rw [e1, e2]
        have f1 : x = bs x.data.toList := (bs_of x).symm
        have g1 : sortT x = [115, 111, 114, 116, 32] ++ (x.data.toList ++ [10]) := rfl
        rw [g1]
        generalize x.data.toList = D at *
        rw [f1]
        simp only [bs_app, List.append_assoc])
      have hR1s : R1.size = 5 + x.size := by rw [← hR1, ByteArray.size_append]; rfl
      have s1 : ¬ (9223372036854775807 < 5 + x.size) := by omega
      have s2 : ¬ (9223372036854775807 < R1.size + 1) := by omega
      have hxl : (sortT x).length ≤ 46 := by
        have h3 : x.data.toList.length = x.size := rfl
        unfold sortT
        simp only [List.length_append, List.length_cons, List.length_nil]
        omega
      have q1 := hR1
      have q2 := hR2
      clear hR1 hR2
      go_wp2_with fail
      clear q1 q2 q0
      rw [HR.out]
      refine (write_x nb nb ((g.1.take k).flatMap sortT) (sortT x) _ HBd.out (by omega) (by have := HNB.out; omega)).mono ?_
      rintro e w7 ⟨rfl, h71, h72⟩
      have HE7 : Hid (Ext w4 w7) := Lib.hid (below_tr HE.out (by have := HNB.out; rw [this]; exact h72))
      have HB7 : Hid (BdR nb nb ((g.1.take (k + 1)).flatMap sortT) w7) := Lib.hid (by rw [HFS.out]; exact h71)
      clear h71 h72
      go_wp2_with fail
      go_roundg (g.1.length - (k + 1))
      case measure => omega
      case rel => exact ⟨k + 1, by go_num, rfl, by omega, HB7, HE7⟩
    · obtain rfl : k = g.1.length := by omega
      have z2 : decide ((g.1.length : Int) < (g.1.length : Int)) = false := decide_eq_false (by omega)
      have HBG8 := Lib.hid (HE.out.heap HBG4.out (fun h => h))
      have c1 := cellRow HBG8.out 1 (.slice oa g.2.length oc) rfl
      have HTK : Hid ((g.1.take g.1.length).flatMap sortT = g.1.flatMap sortT) := Lib.hid (by rw [List.take_length])
      rw [HTK.out] at HBd hl8
      obtain ⟨P1, hP1⟩ : ∃ P, g.1.flatMap sortT = P := ⟨_, rfl⟩
      have HTL : Hid (tsgL g = P1 ++ g.2.flatMap declT) := Lib.hid (by rw [← hP1]; rfl)
      rw [hP1] at HBd hl8
      clear hP1 HTK HBG5 HBG8 hsz8
      go_wp2_with fail
      clear c1 z2
      go_loopg [27] g.2.length (fun gk iv wr => ∃ k : Nat, iv = .int .i64 (k : Int) ∧ gk = g.2.length - k ∧ k ≤ g.2.length ∧ Hid (BdR nb nb (P1 ++ (g.2.take k).flatMap declT) wr) ∧ Hid (Ext w4 wr))
      case atStart => exact ⟨0, rfl, rfl, Nat.zero_le _, Lib.hid (by simpa using HBd.out), HE⟩
      case round =>
        clear HBd HE
        obtain ⟨k, rfl, rfl, hk, HBd, HE⟩ := hrel
        have hsz8 := HE.out.size
        have hl9 := HT2.out k
        by_cases hlt : k < g.2.length
        · obtain ⟨gg, off, hga, _, hat⟩ := (HD.out.ext (H4.out.trans HE.out)).at_ (by omega)
          subst hga
          obtain ⟨xa, xc, q0, q1, q2, hAr⟩ := hat k hlt
          have z0 : (0 : Int) ≤ (k : Int) := by omega
          have z1 : (k : Int) < (g.2.length : Int) := by omega
          have z2 : decide ((k : Int) < (g.2.length : Int)) = true := decide_eq_true z1
          have z2' : decide (k < g.2.length) = true := decide_eq_true hlt
          have hxs := HZ4.out (dg g.2 k) (by rw [dg_at hlt]; exact List.getElem_mem hlt)
          have hxl := declT_len _ hxs
          have hjl := joinB_len _ hxs.2.2.2
          have HFS := Lib.hid (flatB_snoc declT g.2 k (nul, [], nul) hlt)
          obtain ⟨⟨d1, d2, d3⟩, hdd⟩ : ∃ d, dg g.2 k = d := ⟨_, rfl⟩
          rw [show g.2.getD k (nul, [], nul) = (d1, d2, d3) from hdd] at HFS
          rw [hdd] at q0 q1 q2 hAr hxs hxl hjl
          dsimp only at q0 q1 q2 hAr hxs hxl hjl
          obtain ⟨k1, k2, k3, _⟩ := hxs
          have hQ := (Upd.refl (fun _ => False) wr).alloc (.cells #[.string d1, .slice xa d2.length xc, .string d3] 96)
          have HQ := Lib.hid hQ
          have HBD := Lib.hid (alloc0 wr (.cells #[.string d1, .slice xa d2.length xc, .string d3] 96))
          have HAr := Lib.hid (SlR.kept hAr hQ (fun _ _ h => h))
          have HBdQ := Lib.hid (HBd.out.ext hQ)
          have HEQ := Lib.hid (HE.out.trans hQ)
          clear hat hdd hAr hQ
          go_wp2_with fail
          clear q0 q1 q2
          obtain ⟨nd, hnd⟩ : ∃ nd, wr.heap.size = nd := ⟨_, rfl⟩
          try rw [hnd] at HBD
          try rw [hnd]
          have hsq := HQ.out.size
          generalize wr.alloc (.cells #[.string d1, .slice xa d2.length xc, .string d3] 96) = w6 at *
          clear hnd
          have HJ := Lib.hid (fun W (hW : Ext w6 W) => join_x d2 _ S W (SlR.kept HAr.out hW (fun _ _ h => h)) (fun j hj => Nat.lt_of_lt_of_le (HSS.out j hj) (Nat.le_trans (H4.out.trans HEQ.out).size hW.size)) (by omega) (by omega))
          obtain ⟨R1, hR1⟩ : ∃ R, (⟨#[111, 112, 32]⟩ : ByteArray) ++ d1 = R := ⟨_, rfl⟩
          obtain ⟨R2, hR2⟩ : ∃ R, R1 ++ (⟨#[40]⟩ : ByteArray) = R := ⟨_, rfl⟩
          obtain ⟨J, hJ⟩ : ∃ R, bs (joinB d2) = R := ⟨_, rfl⟩
          rw [hJ] at HJ
          obtain ⟨R3, hR3⟩ : ∃ R, R2 ++ J = R := ⟨_, rfl⟩
          obtain ⟨R4, hR4⟩ : ∃ R, R3 ++ (⟨#[41, 32, 45, 62, 32]⟩ : ByteArray) = R := ⟨_, rfl⟩
          obtain ⟨R5, hR5⟩ : ∃ R, R4 ++ d3 = R := ⟨_, rfl⟩
          obtain ⟨R6, hR6⟩ : ∃ R, R5 ++ (⟨#[10]⟩ : ByteArray) = R := ⟨_, rfl⟩
          have HR : Hid (R6 = bs (declT (d1, d2, d3))) := Lib.hid (by
            rw [← hR6, ← hR5, ← hR4, ← hR3, ← hR2, ← hR1, ← hJ]
            have e1 : (⟨#[111, 112, 32]⟩ : ByteArray) = bs [111, 112, 32] := rfl
            have e2 : (⟨#[10]⟩ : ByteArray) = bs [10] := rfl
            have e3 : (⟨#[40]⟩ : ByteArray) = bs [40] := rfl
            have e4 : (⟨#[41, 32, 45, 62, 32]⟩ : ByteArray) = bs [41, 32, 45, 62, 32] := rfl
            rw [e1, e2, e3, e4]
            have f1 : d1 = bs d1.data.toList := (bs_of d1).symm
            have f3 : d3 = bs d3.data.toList := (bs_of d3).symm
            have g1 : declT (d1, d2, d3) = [111, 112, 32] ++ (d1.data.toList ++ ([40] ++ (joinB d2 ++ ([41, 32, 45, 62, 32] ++ (d3.data.toList ++ [10]))))) := rfl
            rw [g1]
            generalize d1.data.toList = D1 at *
            generalize d3.data.toList = D3 at *
            subst f1 f3
            simp only [bs_app, List.append_assoc])
          have hJs : J.size ≤ 42 * d2.length := by rw [← hJ, bs_size]; exact hjl
          have r1 : R1.size = 3 + d1.size := by rw [← hR1, ByteArray.size_append]; rfl
          have r2 : R2.size = R1.size + 1 := by rw [← hR2, ByteArray.size_append]; rfl
          have r3 : R3.size = R2.size + J.size := by rw [← hR3, ByteArray.size_append]
          have r4 : R4.size = R3.size + 5 := by rw [← hR4, ByteArray.size_append]; rfl
          have r5 : R5.size = R4.size + d3.size := by rw [← hR5, ByteArray.size_append]
          have s1 : ¬ (9223372036854775807 < 3 + d1.size) := by omega
          have s2 : ¬ (9223372036854775807 < R1.size + 1) := by omega
          have s3 : ¬ (9223372036854775807 < R2.size + J.size) := by omega
          have s4 : ¬ (9223372036854775807 < R3.size + 5) := by omega
          have s5 : ¬ (9223372036854775807 < R4.size + d3.size) := by omega
          have s6 : ¬ (9223372036854775807 < R5.size + 1) := by omega
          have HDX : Hid (∀ x : XW w6, x.val.cell? ⟨nd, 0, none⟩ = some (.string d1) ∧ x.val.cell? ⟨nd, 1, none⟩ = some (.slice xa d2.length xc) ∧ x.val.cell? ⟨nd, 2, none⟩ = some (.string d3)) := Lib.hid (fun x => ⟨cellRow (x.ext.heap HBD.out (fun h => h)) 0 _ rfl, cellRow (x.ext.heap HBD.out (fun h => h)) 1 _ rfl, cellRow (x.ext.heap HBD.out (fun h => h)) 2 _ rfl⟩)
          have hX0 := fun x : XW w6 => (HDX.out x).1
          have hX1 := fun x : XW w6 => (HDX.out x).2.1
          have hX2 := fun x : XW w6 => (HDX.out x).2.2
          clear hJ
          clear r1 r2 r3 r4 r5 hJs k1 k2 k3
          refine wp_region_par (α := Nat) 13 [(13, 2)] [[], [0], [0, 1], [0, 1, 2], [], [4], [4, 5], [0, 1, 2, 3, 4, 5, 6], [0, 1, 2, 3, 4, 5, 6, 7], [], [9], [0, 1, 2, 3, 4, 5, 6, 7, 8, 9, 10], [0, 1, 2, 3, 4, 5, 6, 7, 8, 9, 10, 11], [0, 1, 2, 3, 4, 5, 6, 7, 8, 9, 10, 11, 12]]
            [none, none, none, none, none, none, some (annVal (.string J)), none, none, none, none, none, none] [false, false, false, false, false, false, true, false, false, false, false, false, false] (by kernel_rfl) (by kernel_rfl) rfl (fun _ _ d _ _ h => by cases d <;> exact h) ?_
          simp only [List.take_succ_cons, List.take_zero, pickO, List.getElem?_cons_zero, List.getElem?_cons_succ]
          iterate 6 (refine can_pure0 rfl (fun K hK => ?_); go_simp; refine hK _ ?_; clear hK K)
          refine can_mem _ rfl (by go_simp) (fun W hW hG K hK => ?_) (fun K x6 hK => ?_)
          · go_simp
            refine (HJ.out W hW).mono ?_
            rintro e w' ⟨rfl, h⟩
            exact hK default w' h trivial
          refine hK _ ?_; clear hK K
          dsimp only [annVal]
          iterate 6 (refine can_pure0 rfl (fun K hK => ?_); go_simp; refine hK _ ?_; clear hK K)
          refine can_end (fun W hW hG => ?_)
          clear hG hX0 hX1 hX2 hR1 hR2 hR3 hR4 hR5 hR6 s1 s2 s3 s4 s5 s6
          rw [HR.out]
          have HEW := Lib.hid (HEQ.out.trans hW)
          have HBW := Lib.hid (HBdQ.out.ext hW)
          have hszW := HEW.out.size
          clear hW
          refine mix_two ?_
          intro K hK
          go_simp
          refine (write_x nb nb (P1 ++ (g.2.take k).flatMap declT) (declT (d1, d2, d3)) W HBW.out (by simp only [List.length_append]; omega) (by have := HNB.out; omega)).mono ?_
          rintro e w7 ⟨rfl, h71, h72⟩
          have HE7 : Hid (Ext w4 w7) := Lib.hid (below_tr HEW.out (by have := HNB.out; rw [this]; exact h72))
          have HB7 : Hid (BdR nb nb (P1 ++ (g.2.take (k + 1)).flatMap declT) w7) := Lib.hid (by rw [HFS.out, ← List.append_assoc]; exact h71)
          clear h71 h72
          refine hK _ _ ?_
          clear hK K
          simp only [wpMix]
          go_wp2_with fail
          go_roundg (g.2.length - (k + 1))
          case measure => omega
          case rel => exact ⟨k + 1, by go_num, rfl, by omega, HB7, HE7⟩
        · obtain rfl : k = g.2.length := by omega
          have z2 : decide ((g.2.length : Int) < (g.2.length : Int)) = false := decide_eq_false (by omega)
          have hbd := HBd.out
          rw [List.take_length, ← HTL.out] at hbd
          have HBT := Lib.hid hbd
          have HF := Lib.hid (fun W => fit_x (tsgL g) W)
          obtain ⟨F, hF⟩ : ∃ F, fitF (tsgL g) = F := ⟨_, rfl⟩
          rw [hF] at HF HV2
          obtain ⟨f1, f2⟩ := F
          dsimp only at HF
          have HV : Hid (V = (f1, f2)) := HV2
          clear hbd hF HV2
          go_wp2_with fail
          refine (bstr_x nb nb (tsgL g) wr HBT.out (by have := HNB.out; omega)).mono ?_
          rintro e w7 ⟨rfl, h72⟩
          have HE7 : Hid (Ext w4 w7) := Lib.hid (below_tr HE.out (by have := HNB.out; rw [this]; exact h72))
          clear h72
          go_wp2_with fail
          refine (HF.out w7).mono ?_
          rintro e w8 ⟨rfl, hw8⟩
          have H8 := Lib.hid (H4.out.trans (HE7.out.trans hw8))
          clear hw8
          go_wp2_with fail
          go_ret2
          rw [HV.out]
          exact ⟨rfl, H8.out⟩

end Go.Proofs.YtjjaknmnhhfjeaaGreatDoor

/- Symbols and words. -/
namespace Go.Proofs.YtjjaknmnhhfjeaaGreatDoor
open Go.RowKit Go.Hw Go
set_option linter.unusedVariables false
set_option linter.unusedSimpArgs false

open Tm
def hpB (s : By) (p : List UInt8) : Bool := Lib.hasPrefix s.data.toList p
def sy4 : List (List UInt8) := [[61, 61], [33, 61], [60, 61], [45, 62]]
def symSet : List UInt8 := [40, 41, 123, 125, 91, 93, 44, 59, 58, 46, 61, 60, 43, 45, 42, 47, 37]
def byt (s : By) (i : Nat) : Nat := (s.data.toList.getD i 0).toNat
def symF (s : By) : List UInt8 := if hpB s [61, 61] = true then [61, 61] else if hpB s [33, 61] = true then [33, 61] else if hpB s [60, 61] = true then [60, 61] else if hpB s [45, 62] = true then [45, 62] else
  if 0 < s.size ∧ 0 ≤ Lib.indexByte symSet (s.data.toList.getD 0 0) then [s.data.toList.getD 0 0] else []
theorem ext01 (s : By) (h : 0 < s.size) : s.extract 0 1 = bs [s.data.toList.getD 0 0] := by
  apply ba_list
  rw [bs_data, ByteArray.data_extract, Array.toList_extract]
  have : s.data.toList.length = s.size := rfl
  cases h2 : s.data.toList with
  | nil => rw [h2] at this; simp at this; omega
  | cons a l => simp
theorem ix175 (k : Nat) (hk : k < 4) (W : World) : (Instr.index 175 (.agg #[.string ⟨#[61, 61]⟩, .string ⟨#[33, 61]⟩, .string ⟨#[60, 61]⟩, .string ⟨#[45, 62]⟩]) (.int .i64 (k : Int))).run Tryz.prog W = .ok (.string (bs (sy4.getD k []))) W := by
  rcases (by omega : k = 0 ∨ k = 1 ∨ k = 2 ∨ k = 3) with rfl | rfl | rfl | rfl <;> simp [Instr.index, run_underlying Tryz.underlying175, asIntOf, go_sem, sy4, bs]
set_option maxRecDepth 100000 in
set_option maxHeartbeats 2000000 in
theorem symbol_x (s : By) (w : World) : Calls Tryz.prog 100 #[.string s] w fun e w' => e = .returned (.string (bs (symF s))) ∧ Ext w w' := by
  obtain ⟨V, hV⟩ : ∃ V, symF s = V := ⟨_, rfl⟩
  go_enter Tryz.func100, Tryz.ntmps100
  go_wp2_with fail
  go_loopg [6] 4 (fun gk iv wr => ∃ k : Nat, iv = .int .i64 (k : Int) ∧ gk = 4 - k ∧ k ≤ 4 ∧ Hid (∀ j, j < k → hpB s (sy4.getD j []) = false) ∧ wr = w)
  case atStart => exact ⟨0, rfl, rfl, Nat.zero_le _, Lib.hid (fun j h => absurd h (Nat.not_lt_zero _)), rfl⟩
  case round =>
    obtain ⟨k, rfl, hgk, hk, HM, rfl⟩ := hrel
    by_cases hlt : k < 4
    · rcases (by omega : k = 0 ∨ k = 1 ∨ k = 2 ∨ k = 3) with rfl | rfl | rfl | rfl
      · have HPX := Lib.hid (Tryz.strings_HasPrefix s ⟨#[61, 61]⟩ wr)
        have HYS : Hid (hpB s [61, 61] = true → symF s = [61, 61]) := Lib.hid (fun h => by
          unfold symF
          skip
          rw [if_pos h])
        have HN : Hid (hpB s [61, 61] = false → ∀ j, j < 1 → hpB s (sy4.getD j []) = false) := Lib.hid (fun h j hj => by
          rcases Nat.lt_succ_iff_lt_or_eq.1 hj with h5 | h5
          · exact HM.out j h5
          · rw [h5]; exact h)
        rw [show Lib.hasPrefix s.data.toList (⟨#[61, 61]⟩ : ByteArray).data.toList = hpB s [61, 61] from rfl] at HPX
        obtain ⟨b, hb⟩ : ∃ b, hpB s [61, 61] = b := ⟨_, rfl⟩
        rw [hb] at HPX HYS HN
        clear hb hlt HM
        have hix : (Instr.index 175 (.agg #[.string ⟨#[61, 61]⟩, .string ⟨#[33, 61]⟩, .string ⟨#[60, 61]⟩, .string ⟨#[45, 62]⟩]) (.int .i64 (0 : Int))).run Tryz.prog wr = .ok (.string ⟨#[61, 61]⟩) wr := ix175 0 (by omega) wr
        go_wp2_with fail
        try rw [hix]
        try simp only [Result.andThen]
        try rw [Oper.upon_value]
        clear hix
        go_wp2_with fail
        refine HPX.out.mono ?_
        rintro e w4 ⟨rfl, rfl⟩
        clear HPX
        cases b
        · have HN2 := Lib.hid (HN.out rfl)
          go_wp2_with fail
          go_roundg (3)
          case measure => omega
          case rel => exact ⟨1, by go_num, by omega, by omega, HN2, rfl⟩
        · have HV := Lib.hid (HYS.out rfl)
          go_wp2_with fail
          go_ret
          rw [HV.out]
          exact ⟨rfl, Upd.refl _ _⟩
      · have HPX := Lib.hid (Tryz.strings_HasPrefix s ⟨#[33, 61]⟩ wr)
        have HYS : Hid (hpB s [33, 61] = true → symF s = [33, 61]) := Lib.hid (fun h => by
          unfold symF
          rw [if_neg (by rw [show hpB s [61, 61] = false from HM.out 0 (by omega)]; decide)]
          rw [if_pos h])
        have HN : Hid (hpB s [33, 61] = false → ∀ j, j < 2 → hpB s (sy4.getD j []) = false) := Lib.hid (fun h j hj => by
          rcases Nat.lt_succ_iff_lt_or_eq.1 hj with h5 | h5
          · exact HM.out j h5
          · rw [h5]; exact h)
        rw [show Lib.hasPrefix s.data.toList (⟨#[33, 61]⟩ : ByteArray).data.toList = hpB s [33, 61] from rfl] at HPX
        obtain ⟨b, hb⟩ : ∃ b, hpB s [33, 61] = b := ⟨_, rfl⟩
        rw [hb] at HPX HYS HN
        clear hb hlt HM
        have hix : (Instr.index 175 (.agg #[.string ⟨#[61, 61]⟩, .string ⟨#[33, 61]⟩, .string ⟨#[60, 61]⟩, .string ⟨#[45, 62]⟩]) (.int .i64 (1 : Int))).run Tryz.prog wr = .ok (.string ⟨#[33, 61]⟩) wr := ix175 1 (by omega) wr
        go_wp2_with fail
        try rw [hix]
        try simp only [Result.andThen]
        try rw [Oper.upon_value]
        clear hix
        go_wp2_with fail
        refine HPX.out.mono ?_
        rintro e w4 ⟨rfl, rfl⟩
        clear HPX
        cases b
        · have HN2 := Lib.hid (HN.out rfl)
          go_wp2_with fail
          go_roundg (2)
          case measure => omega
          case rel => exact ⟨2, by go_num, by omega, by omega, HN2, rfl⟩
        · have HV := Lib.hid (HYS.out rfl)
          go_wp2_with fail
          go_ret
          rw [HV.out]
          exact ⟨rfl, Upd.refl _ _⟩
      · have HPX := Lib.hid (Tryz.strings_HasPrefix s ⟨#[60, 61]⟩ wr)
        have HYS : Hid (hpB s [60, 61] = true → symF s = [60, 61]) := Lib.hid (fun h => by
          unfold symF
          rw [if_neg (by rw [show hpB s [61, 61] = false from HM.out 0 (by omega)]; decide)]; rw [if_neg (by rw [show hpB s [33, 61] = false from HM.out 1 (by omega)]; decide)]
          rw [if_pos h])
        have HN : Hid (hpB s [60, 61] = false → ∀ j, j < 3 → hpB s (sy4.getD j []) = false) := Lib.hid (fun h j hj => by
          rcases Nat.lt_succ_iff_lt_or_eq.1 hj with h5 | h5
          · exact HM.out j h5
          · rw [h5]; exact h)
        rw [show Lib.hasPrefix s.data.toList (⟨#[60, 61]⟩ : ByteArray).data.toList = hpB s [60, 61] from rfl] at HPX
        obtain ⟨b, hb⟩ : ∃ b, hpB s [60, 61] = b := ⟨_, rfl⟩
        rw [hb] at HPX HYS HN
        clear hb hlt HM
        have hix : (Instr.index 175 (.agg #[.string ⟨#[61, 61]⟩, .string ⟨#[33, 61]⟩, .string ⟨#[60, 61]⟩, .string ⟨#[45, 62]⟩]) (.int .i64 (2 : Int))).run Tryz.prog wr = .ok (.string ⟨#[60, 61]⟩) wr := ix175 2 (by omega) wr
        go_wp2_with fail
        try rw [hix]
        try simp only [Result.andThen]
        try rw [Oper.upon_value]
        clear hix
        go_wp2_with fail
        refine HPX.out.mono ?_
        rintro e w4 ⟨rfl, rfl⟩
        clear HPX
        cases b
        · have HN2 := Lib.hid (HN.out rfl)
          go_wp2_with fail
          go_roundg (1)
          case measure => omega
          case rel => exact ⟨3, by go_num, by omega, by omega, HN2, rfl⟩
        · have HV := Lib.hid (HYS.out rfl)
          go_wp2_with fail
          go_ret
          rw [HV.out]
          exact ⟨rfl, Upd.refl _ _⟩
      · have HPX := Lib.hid (Tryz.strings_HasPrefix s ⟨#[45, 62]⟩ wr)
        have HYS : Hid (hpB s [45, 62] = true → symF s = [45, 62]) := Lib.hid (fun h => by
          unfold symF
          rw [if_neg (by rw [show hpB s [61, 61] = false from HM.out 0 (by omega)]; decide)]; rw [if_neg (by rw [show hpB s [33, 61] = false from HM.out 1 (by omega)]; decide)]; rw [if_neg (by rw [show hpB s [60, 61] = false from HM.out 2 (by omega)]; decide)]
          rw [if_pos h])
        have HN : Hid (hpB s [45, 62] = false → ∀ j, j < 4 → hpB s (sy4.getD j []) = false) := Lib.hid (fun h j hj => by
          rcases Nat.lt_succ_iff_lt_or_eq.1 hj with h5 | h5
          · exact HM.out j h5
          · rw [h5]; exact h)
        rw [show Lib.hasPrefix s.data.toList (⟨#[45, 62]⟩ : ByteArray).data.toList = hpB s [45, 62] from rfl] at HPX
        obtain ⟨b, hb⟩ : ∃ b, hpB s [45, 62] = b := ⟨_, rfl⟩
        rw [hb] at HPX HYS HN
        clear hb hlt HM
        have hix : (Instr.index 175 (.agg #[.string ⟨#[61, 61]⟩, .string ⟨#[33, 61]⟩, .string ⟨#[60, 61]⟩, .string ⟨#[45, 62]⟩]) (.int .i64 (3 : Int))).run Tryz.prog wr = .ok (.string ⟨#[45, 62]⟩) wr := ix175 3 (by omega) wr
        go_wp2_with fail
        try rw [hix]
        try simp only [Result.andThen]
        try rw [Oper.upon_value]
        clear hix
        go_wp2_with fail
        refine HPX.out.mono ?_
        rintro e w4 ⟨rfl, rfl⟩
        clear HPX
        cases b
        · have HN2 := Lib.hid (HN.out rfl)
          go_wp2_with fail
          go_roundg (0)
          case measure => omega
          case rel => exact ⟨4, by go_num, by omega, by omega, HN2, rfl⟩
        · have HV := Lib.hid (HYS.out rfl)
          go_wp2_with fail
          go_ret
          rw [HV.out]
          exact ⟨rfl, Upd.refl _ _⟩
    · obtain rfl : k = 4 := by omega
      have HS : Hid (symF s = if 0 < s.size ∧ 0 ≤ Lib.indexByte symSet (s.data.toList.getD 0 0) then [s.data.toList.getD 0 0] else []) := Lib.hid (by
        unfold symF
        rw [if_neg (by rw [show hpB s [61, 61] = false from HM.out 0 (by omega)]; decide), if_neg (by rw [show hpB s [33, 61] = false from HM.out 1 (by omega)]; decide), if_neg (by rw [show hpB s [60, 61] = false from HM.out 2 (by omega)]; decide), if_neg (by rw [show hpB s [45, 62] = false from HM.out 3 (by omega)]; decide)])
      clear HM hlt hgk
      by_cases h0 : 0 < s.size
      · obtain ⟨z1, z2, z3, z4⟩ := nonempty_t s h0
        have hat : s.data.toList.getD 0 0 = s[0]'h0 := at_list s 0 h0
        have HX := Lib.hid (ext01 s h0)
        have HIB := Lib.hid (Tryz.strings_IndexByte ⟨#[40, 41, 123, 125, 91, 93, 44, 59, 58, 46, 61, 60, 43, 45, 42, 47, 37]⟩ ((s[0]'h0).toNat : Int) wr)
        have e9 : (((s[0]'h0).toNat : Int)).toNat.toUInt8 = s.data.toList.getD 0 0 := by rw [hat]; simp
        rw [e9, show (⟨#[40, 41, 123, 125, 91, 93, 44, 59, 58, 46, 61, 60, 43, 45, 42, 47, 37]⟩ : ByteArray).data.toList = symSet from rfl] at HIB
        obtain ⟨X, hX⟩ : ∃ X, Lib.indexByte symSet (s.data.toList.getD 0 0) = X := ⟨_, rfl⟩
        rw [hX] at HIB HS
        by_cases hx : 0 ≤ X
        · have HV : Hid (symF s = [s.data.toList.getD 0 0]) := Lib.hid (by rw [HS.out, if_pos ⟨h0, hx⟩])
          have t1 : decide ((0 : Int) ≤ X) = true := decide_eq_true hx
          have i1 : (1 : Int) ≤ (s.size : Int) := by omega
          clear hat e9 hX HS
          go_wp2_with fail
          refine HIB.out.mono ?_
          rintro e w4 ⟨rfl, rfl⟩
          go_wp2_with fail
          go_ret
          rw [HX.out, HV.out]
          exact ⟨rfl, Upd.refl _ _⟩
        · have HV : Hid (symF s = []) := Lib.hid (by rw [HS.out, if_neg (fun h => hx h.2)])
          have t1 : decide ((0 : Int) ≤ X) = false := decide_eq_false hx
          clear hat e9 hX HS
          go_wp2_with fail
          refine HIB.out.mono ?_
          rintro e w4 ⟨rfl, rfl⟩
          go_wp2_with fail
          go_ret
          rw [HV.out]
          exact ⟨rfl, Upd.refl _ _⟩
      · have HV : Hid (symF s = []) := Lib.hid (by rw [HS.out, if_neg (fun h => h0 h.1)])
        obtain rfl := empty_is s (by omega)
        clear HS h0
        go_wp2_with fail
        go_ret
        rw [HV.out]
        exact ⟨rfl, Upd.refl _ _⟩
theorem st5_heap {W : World} {z : Nat} {t : TypeId} {v0 v1 v2 v3 v4 : Value} (h : W.heap[z]? = some (.cells #[v0, v1, v2, v3, v4] t (0, 0))) (u0 u1 u2 u3 u4 : Value) : (((((W.setCell ⟨z, 0, none⟩ u0).setCell ⟨z, 1, none⟩ u1).setCell ⟨z, 2, none⟩ u2).setCell ⟨z, 3, none⟩ u3).setCell ⟨z, 4, none⟩ u4).heap[z]? = some (.cells #[u0, u1, u2, u3, u4] t (0, 0)) := by
  have := setBlock (setBlock (setBlock (setBlock (setBlock h 0 u0) 1 u1) 2 u2) 3 u3) 4 u4
  simpa using this
theorem st5_upd (W : World) (z : Nat) (u0 u1 u2 u3 u4 : Value) : Upd (fun k => k = z) W (((((W.setCell ⟨z, 0, none⟩ u0).setCell ⟨z, 1, none⟩ u1).setCell ⟨z, 2, none⟩ u2).setCell ⟨z, 3, none⟩ u3).setCell ⟨z, 4, none⟩ u4) :=
  (((((Upd.refl (fun k => k = z) W).setCell (p := ⟨z, 0, none⟩) (.inl rfl) u0).setCell (p := ⟨z, 1, none⟩) (.inl rfl) u1).setCell (p := ⟨z, 2, none⟩) (.inl rfl) u2).setCell (p := ⟨z, 3, none⟩) (.inl rfl) u3).setCell (p := ⟨z, 4, none⟩) (.inl rfl) u4
structure Wd where
  kind : Nat
  text : By
  n : Int
  ok : Bool
def wdF (iF : By → Int × Bool) (s : By) : Wd := if kwB s = true then ⟨3, s, 0, true⟩ else if nmB s = true then ⟨1, s, 0, true⟩ else ⟨2, nul, (iF s).1, (iF s).2⟩
def WdR (q : Wd) (e : Ending) : Prop := e = .returned (.tuple #[.agg #[.int .i64 (q.kind : Int), .string q.text, .int .i64 q.n, .int .i64 0, .int .i64 0], .bool q.ok])
set_option maxRecDepth 100000 in
set_option maxHeartbeats 2000000 in
theorem pword_x (iF : By → Int × Bool) (s : By) (w : World) (htab : AscT w) (hint : kwB s = true ∨ nmB s = true ∨ ∀ W, Ext w W → Calls Tryz.prog 124 #[.string s] W fun e W' => e = .returned (.tuple #[.int .i64 (iF s).1, .bool (iF s).2]) ∧ Ext W W') :
    Calls Tryz.prog 99 #[.string s] w fun e w' => WdR (wdF iF s) e ∧ Ext w w' := by
  have HE := Lib.hid ((Upd.refl (fun _ => False) w).alloc (.cells #[.int .i64 0, .string ⟨#[]⟩, .int .i64 0, .int .i64 0, .int .i64 0] 114))
  have HB := Lib.hid (alloc0 w (.cells #[.int .i64 0, .string ⟨#[]⟩, .int .i64 0, .int .i64 0, .int .i64 0] 114))
  have HK := Lib.hid (isKeyword_x s (w.alloc (.cells #[.int .i64 0, .string ⟨#[]⟩, .int .i64 0, .int .i64 0, .int .i64 0] 114)) (asc_ext htab HE.out))
  have HIN := Lib.hid (fun W (hW : Ext w W) => isName_x s W (asc_ext htab hW))
  have HI := Lib.hid hint
  have HSZ : Hid (w.heap.size + 1 ≤ (w.alloc (.cells #[.int .i64 0, .string ⟨#[]⟩, .int .i64 0, .int .i64 0, .int .i64 0] 114)).heap.size) := Lib.hid (by simp)
  have HV : Hid (wdF iF s = if kwB s = true then ⟨3, s, 0, true⟩ else if nmB s = true then ⟨1, s, 0, true⟩ else ⟨2, nul, (iF s).1, (iF s).2⟩) := Lib.hid rfl
  obtain ⟨V, hV⟩ : ∃ V, wdF iF s = V := ⟨_, rfl⟩
  rw [hV] at HV ⊢
  clear hV htab hint
  obtain ⟨b1, hb1⟩ : ∃ b, kwB s = b := ⟨_, rfl⟩
  rw [hb1] at HK HV HI
  go_enter Tryz.func99, Tryz.ntmps99
  go_wp2_with fail
  generalize w.alloc (.cells #[.int .i64 0, .string ⟨#[]⟩, .int .i64 0, .int .i64 0, .int .i64 0] 114) = w1 at *
  refine HK.out.mono ?_
  rintro e w4 ⟨rfl, hw4⟩
  have H4 := Lib.hid (HE.out.trans hw4)
  have HB4 := Lib.hid (hw4.heap HB.out (fun h => h))
  have hs4 := hw4.size
  have hsz := HSZ.out
  clear hw4 HK hb1
  cases b1
  case true =>
    have HV2 : Hid (V = ⟨3, s, 0, true⟩) := Lib.hid (by rw [HV.out]; rfl)
    have f0 := fun i => frozenRow HB4.out i
    have d0 := cellRow HB4.out 0 (.int .i64 0) rfl
    have d1 := cellRow HB4.out 1 (.string ⟨#[]⟩) rfl
    have d2 := cellRow HB4.out 2 (.int .i64 0) rfl
    have d3 := cellRow HB4.out 3 (.int .i64 0) rfl
    have d4 := cellRow HB4.out 4 (.int .i64 0) rfl
    go_wp2_with fail
    have hr5 := st5_heap HB4.out (.int .i64 3) (.string s) (.int .i64 0) (.int .i64 0) (.int .i64 0)
    have hu := st5_upd w4 w.heap.size (.int .i64 3) (.string s) (.int .i64 0) (.int .i64 0) (.int .i64 0)
    have e0 := cellRow hr5 0 _ rfl
    have e1 := cellRow hr5 1 _ rfl
    have e2 := cellRow hr5 2 _ rfl
    have e3 := cellRow hr5 3 _ rfl
    have e4 := cellRow hr5 4 _ rfl
    refine bodyPost_ret (v := .tuple #[.agg #[.int .i64 3, .string s, .int .i64 0, .int .i64 0, .int .i64 0], .bool true]) (by simp [results, Tryz.results99, go_sem, e0, e1, e2, e3, e4]) rfl ?_
    have hue := H4.out.trans' hu (fun j hj e => by omega)
    rw [HV2.out]; exact ⟨rfl, hue⟩
  have HN := Lib.hid (HIN.out w4 H4.out)
  obtain ⟨b2, hb2⟩ : ∃ b, nmB s = b := ⟨_, rfl⟩
  rw [hb2] at HN HV HI
  clear hb2
  go_wp2_with fail
  refine HN.out.mono ?_
  rintro e w5 ⟨rfl, hw5⟩
  have H5 := Lib.hid (H4.out.trans hw5)
  have HB5 := Lib.hid (hw5.heap HB4.out (fun h => h))
  have hs5 := hw5.size
  clear hw5 HN HB4
  cases b2
  case true =>
    have HV2 : Hid (V = ⟨1, s, 0, true⟩) := Lib.hid (by rw [HV.out]; rfl)
    have f0 := fun i => frozenRow HB5.out i
    have d0 := cellRow HB5.out 0 (.int .i64 0) rfl
    have d1 := cellRow HB5.out 1 (.string ⟨#[]⟩) rfl
    have d2 := cellRow HB5.out 2 (.int .i64 0) rfl
    have d3 := cellRow HB5.out 3 (.int .i64 0) rfl
    have d4 := cellRow HB5.out 4 (.int .i64 0) rfl
    go_wp2_with fail
    have hr5 := st5_heap HB5.out (.int .i64 1) (.string s) (.int .i64 0) (.int .i64 0) (.int .i64 0)
    have hu := st5_upd w5 w.heap.size (.int .i64 1) (.string s) (.int .i64 0) (.int .i64 0) (.int .i64 0)
    have e0 := cellRow hr5 0 _ rfl
    have e1 := cellRow hr5 1 _ rfl
    have e2 := cellRow hr5 2 _ rfl
    have e3 := cellRow hr5 3 _ rfl
    have e4 := cellRow hr5 4 _ rfl
    refine bodyPost_ret (v := .tuple #[.agg #[.int .i64 1, .string s, .int .i64 0, .int .i64 0, .int .i64 0], .bool true]) (by simp [results, Tryz.results99, go_sem, e0, e1, e2, e3, e4]) rfl ?_
    have hue := H5.out.trans' hu (fun j hj e => by omega)
    rw [HV2.out]; exact ⟨rfl, hue⟩
  have HI2 := Lib.hid ((HI.out.resolve_left (by decide)).resolve_left (by decide) w5 H5.out)
  have HV2 : Hid (V = ⟨2, nul, (iF s).1, (iF s).2⟩) := Lib.hid (by rw [HV.out]; rfl)
  obtain ⟨⟨n1, n2⟩, hn⟩ : ∃ p, iF s = p := ⟨_, rfl⟩
  rw [hn] at HI2 HV2
  dsimp only at HI2 HV2
  clear hn HI
  go_wp2_with fail
  refine HI2.out.mono ?_
  rintro e w6 ⟨rfl, hw6⟩
  have H6 := Lib.hid (H5.out.trans hw6)
  have HB6 := Lib.hid (hw6.heap HB5.out (fun h => h))
  have hs6 := hw6.size
  clear hw6 HI2 HB5
  have f0 := fun i => frozenRow HB6.out i
  have d0 := cellRow HB6.out 0 (.int .i64 0) rfl
  have d1 := cellRow HB6.out 1 (.string ⟨#[]⟩) rfl
  have d2 := cellRow HB6.out 2 (.int .i64 0) rfl
  have d3 := cellRow HB6.out 3 (.int .i64 0) rfl
  have d4 := cellRow HB6.out 4 (.int .i64 0) rfl
  go_wp2_with fail
  have hr5 := st5_heap HB6.out (.int .i64 2) (.string ⟨#[]⟩) (.int .i64 n1) (.int .i64 0) (.int .i64 0)
  have hu := st5_upd w6 w.heap.size (.int .i64 2) (.string ⟨#[]⟩) (.int .i64 n1) (.int .i64 0) (.int .i64 0)
  have e0 := cellRow hr5 0 _ rfl
  have e1 := cellRow hr5 1 _ rfl
  have e2 := cellRow hr5 2 _ rfl
  have e3 := cellRow hr5 3 _ rfl
  have e4 := cellRow hr5 4 _ rfl
  refine bodyPost_ret (v := .tuple #[.agg #[.int .i64 2, .string ⟨#[]⟩, .int .i64 n1, .int .i64 0, .int .i64 0], .bool n2]) (by simp [results, Tryz.results99, go_sem, e0, e1, e2, e3, e4]) rfl ?_
  have hue := H6.out.trans' hu (fun j hj e => by omega)
  rw [HV2.out]; exact ⟨rfl, hue⟩

end Go.Proofs.YtjjaknmnhhfjeaaGreatDoor
