/- The texts I72 I73 I95 I96 I97 I100, one behind the other. -/
import Derived.Test.YtiimccogojkldaaGreatDoorYAM
import Derived.Test.YtiimccogojkldaaGreatDoorYAD
import Derived.Deep.DeepCutAuto
import Derived.Test.YtiimccogojkldaaGreatDoorYAL
import Derived.Test.YtiimccogojkldaaGreatDoorYAK
import Derived.Test.YtiimccogojkldaaGreatDoorYAF
/- At. -/
namespace Go.Proofs.YtiimccogojkldaaGreatDoor
open Go.RowKit Go.Hw Go
set_option linter.unusedVariables false
set_option linter.unusedSimpArgs false

open Tm
abbrev nulT : Tm := .mk nul nul []
/-- what At answers -/
def atF (t : Tm) (p : List Int) : Tm × Int := if wf nmB t = false then (nulT, 1) else match subI t p with
  | none => (nulT, 2)
  | some x => (x, 0)
theorem tmAt_size : ∀ (p : List Nat) (t : Tm), okP t p → (tmAt t p).size ≤ t.size
  | [], t, _ => Nat.le_refl _
  | i :: p, t, h => by
    have h1 := tmAt_size p _ h.2
    have h2 := size_kid (tg_mem t.kids i h.1)
    show (tmAt (tg t.kids i) p).size ≤ _
    omega
set_option maxRecDepth 100000 in
set_option maxHeartbeats 2000000 in
theorem At_x (t : Tm) (p : List Int) (tv pv : Value) (S T : Nat → Prop) (w : World) (hT : TmR S w t tv) (hS : ∀ k, S k → k < w.heap.size) (hP : SlR T w 1 pv p.length (p.map (Value.int .i64))) (htab : AscT w) (hsz : t.size ≤ 100000) (hl : p.length ≤ 1000000) :
    Calls Tryz.prog 28 #[tv, pv] w fun e w' => ∃ r, e = .returned (.tuple #[tV (atF t p).1 r, .int .i64 (atF t p).2]) ∧ TlR (fun k => w.heap.size ≤ k ∧ k < w'.heap.size) w' (atF t p).1.kids r ∧ Ext w w' := by
  obtain ⟨pa, pc, rfl⟩ := SlR.shape hP
  have HP := Lib.hid hP
  obtain ⟨a, cap, rfl, hT⟩ := hT
  have HT := Lib.hid hT
  have HE2 := Lib.hid (((Upd.refl (fun _ => False) w).alloc (.cells #[.string t.name, .string t.sort, .slice a t.kids.length cap] 25)).alloc (.cells #[.string ⟨#[]⟩, .string ⟨#[]⟩, .slice none 0 0] 25))
  have HB1 := Lib.hid (allocOld (alloc0 w (.cells #[.string t.name, .string t.sort, .slice a t.kids.length cap] 25)) (.cells #[.string ⟨#[]⟩, .string ⟨#[]⟩, .slice none 0 0] 25))
  have HB2 := Lib.hid (alloc_at (w.alloc (.cells #[.string t.name, .string t.sort, .slice a t.kids.length cap] 25)) (.cells #[.string ⟨#[]⟩, .string ⟨#[]⟩, .slice none 0 0] 25) (n := w.heap.size + 1) (by simp))
  have hz2 : ((w.alloc (.cells #[.string t.name, .string t.sort, .slice a t.kids.length cap] 25)).alloc (.cells #[.string ⟨#[]⟩, .string ⟨#[]⟩, .slice none 0 0] 25)).heap.size = w.heap.size + 2 := by simp
  have HZ2 := Lib.hid hz2
  have HWF := Lib.hid (fun W (hW : Ext w W) => wellFormed_x t _ W (asc_ext htab hW) ⟨a, cap, rfl, (hT.ext hW).weaken (fun k hk => Nat.lt_of_lt_of_le (hS k hk) hW.size)⟩ (by omega))
  have HSS := Lib.hid hS
  have HF0 : Hid (wf nmB t = false → atF t p = (nulT, 1)) := Lib.hid (fun h => by unfold atF; rw [if_pos h])
  have HF1 : Hid (wf nmB t = true → subI t p = none → atF t p = (nulT, 2)) := Lib.hid (fun h h2 => by unfold atF; rw [if_neg (by rw [h]; simp), h2])
  have HF2 : Hid (wf nmB t = true → ∀ x, subI t p = some x → atF t p = (x, 0)) := Lib.hid (fun h x h2 => by unfold atF; rw [if_neg (by rw [h]; simp), h2])
  obtain ⟨F, hF⟩ : ∃ F, atF t p = F := ⟨_, rfl⟩
  rw [hF] at HF0 HF1 HF2 ⊢
  dsimp only [tV] at HWF ⊢
  obtain ⟨WB, hWB⟩ : ∃ b, wf nmB t = b := ⟨_, rfl⟩
  rw [hWB] at HWF HF0 HF1 HF2
  clear hP hT hS htab hF hWB hz2
  have k0 := cellRow HB1.out 0 (.string t.name) rfl
  have k1 := cellRow HB1.out 1 (.string t.sort) rfl
  have k2 := cellRow HB1.out 2 (.slice a t.kids.length cap) rfl
  go_enter Tryz.func28, Tryz.ntmps28
  go_wp2_with fail
  refine (HWF.out _ HE2.out).mono ?_
  rintro e w4 ⟨rfl, hw4⟩
  have H4 : Hid (Ext w w4) := Lib.hid (HE2.out.trans hw4)
  have HB14 := Lib.hid (hw4.heap HB1.out (fun h => h))
  have HB24 := Lib.hid (hw4.heap HB2.out (fun h => h))
  have HZ4 : Hid (w.heap.size + 2 ≤ w4.heap.size) := Lib.hid (by rw [← HZ2.out]; exact hw4.size)
  clear hw4 k0 k1 k2 HWF HB1 HB2 HE2
  cases WB
  · have HV := Lib.hid (HF0.out (by simp))
    have f2 := fun i => frozenRow HB24.out i
    have d0 := cellRow HB24.out 0 (.string ⟨#[]⟩) rfl
    have d1 := cellRow HB24.out 1 (.string ⟨#[]⟩) rfl
    have d2 := cellRow HB24.out 2 (.slice none 0 0) rfl
    go_wp2_with fail
    have hr := st3_heap HB24.out (.string ⟨#[]⟩) (.string ⟨#[]⟩) (.slice none 0 0)
    have hu := st3_upd' w4 (w.heap.size + 1) (.string ⟨#[]⟩) (.string ⟨#[]⟩) (.slice none 0 0)
    have e0 := cellRow hr 0 (.string ⟨#[]⟩) rfl
    have e1 := cellRow hr 1 (.string ⟨#[]⟩) rfl
    have e2 := cellRow hr 2 (.slice none 0 0) rfl
    refine bodyPost_ret (v := .tuple #[.agg #[.string ⟨#[]⟩, .string ⟨#[]⟩, .slice none 0 0], .int .i64 1]) (by simp [results, Tryz.results28, go_sem, e0, e1, e2]) rfl ⟨.slice none 0 0, by rw [HV.out]; rfl, by rw [HV.out]; exact TlR.nil _ _, H4.out.trans' hu (fun j hj e => by omega)⟩
  have HAT := Lib.hid (at_x t p (.slice pa p.length pc) (w.heap.size, 0) S T w4 ⟨a, cap, cellRow HB14.out 0 _ rfl, cellRow HB14.out 1 _ rfl, cellRow HB14.out 2 _ rfl, HT.out.ext H4.out⟩ (SlR.kept HP.out H4.out (fun _ _ h => h)) hl)
  go_wp2_with fail
  refine HAT.out.mono ?_
  rintro e w5 ⟨hat, rfl⟩
  rcases hat with ⟨hs, rfl⟩ | ⟨x, a', hs, rfl, _, xa, xc, x0, x1, x2, hx⟩
  · have HV := Lib.hid (HF1.out (by simp) hs)
    have f2 := fun i => frozenRow HB24.out i
    have d0 := cellRow HB24.out 0 (.string ⟨#[]⟩) rfl
    have d1 := cellRow HB24.out 1 (.string ⟨#[]⟩) rfl
    have d2 := cellRow HB24.out 2 (.slice none 0 0) rfl
    go_wp2_with fail
    have hr := st3_heap HB24.out (.string ⟨#[]⟩) (.string ⟨#[]⟩) (.slice none 0 0)
    have hu := st3_upd' w4 (w.heap.size + 1) (.string ⟨#[]⟩) (.string ⟨#[]⟩) (.slice none 0 0)
    have e0 := cellRow hr 0 (.string ⟨#[]⟩) rfl
    have e1 := cellRow hr 1 (.string ⟨#[]⟩) rfl
    have e2 := cellRow hr 2 (.slice none 0 0) rfl
    refine bodyPost_ret (v := .tuple #[.agg #[.string ⟨#[]⟩, .string ⟨#[]⟩, .slice none 0 0], .int .i64 2]) (by simp [results, Tryz.results28, go_sem, e0, e1, e2]) rfl ⟨.slice none 0 0, by rw [HV.out]; rfl, by rw [HV.out]; exact TlR.nil _ _, H4.out.trans' hu (fun j hj e => by omega)⟩
  · have HV := Lib.hid (HF2.out (by simp) x hs)
    have hso := subI_ok hs
    have hxs : x.size ≤ 100000 := by
      have h1 := tmAt_size _ t hso.1
      rw [hso.2] at h1
      omega
    have HC := Lib.hid (copied_x x _ S w4 ⟨xa, xc, rfl, hx⟩ (fun k hk => Nat.lt_of_lt_of_le (HSS.out k hk) H4.out.size) hxs)
    dsimp only [tV] at HC
    obtain ⟨ab, ao⟩ := a'
    dsimp only at x0 x1 x2
    clear hs hso hxs hx HF0 HF1 HF2 HAT
    go_wp2_with fail
    refine HC.out.mono ?_
    rintro e w6 ⟨r, B, rfl, hO6, hB6, hw6⟩
    have H6 := Lib.hid (H4.out.trans hw6)
    have HB26 := Lib.hid (hw6.heap HB24.out (fun h => h))
    have HO6 := Lib.hid hO6
    have HBB : Hid (∀ j, B j → w.heap.size + 2 ≤ j ∧ j < w6.heap.size) := Lib.hid (fun j hj => ⟨Nat.le_trans HZ4.out (hB6 j hj).1, (hB6 j hj).2⟩)
    obtain ⟨ra, rc, hrv⟩ := TlO.shape hO6
    subst hrv
    clear hO6 hB6 hw6 x0 x1 x2 HC
    have f2 := fun i => frozenRow HB26.out i
    have d0 := cellRow HB26.out 0 (.string ⟨#[]⟩) rfl
    have d1 := cellRow HB26.out 1 (.string ⟨#[]⟩) rfl
    have d2 := cellRow HB26.out 2 (.slice none 0 0) rfl
    go_wp2_with fail
    have hr := st3_heap HB26.out (.string x.name) (.string x.sort) (.slice ra x.kids.length rc)
    have hu := st3_upd' w6 (w.heap.size + 1) (.string x.name) (.string x.sort) (.slice ra x.kids.length rc)
    have e0 := cellRow hr 0 (.string x.name) rfl
    have e1 := cellRow hr 1 (.string x.sort) rfl
    have e2 := cellRow hr 2 (.slice ra x.kids.length rc) rfl
    refine bodyPost_ret (v := .tuple #[.agg #[.string x.name, .string x.sort, .slice ra x.kids.length rc], .int .i64 0]) (by simp [results, Tryz.results28, go_sem, e0, e1, e2]) rfl ⟨.slice ra x.kids.length rc, by rw [HV.out], ?_, H6.out.trans' hu (fun j hj e => by omega)⟩
    rw [HV.out]
    exact ((HO6.out.kept hu (fun j hj e => by have := (HBB.out j hj).1; omega)).read).weaken (fun j hj => ⟨by have := (HBB.out j hj).1; omega, Nat.lt_of_lt_of_le (HBB.out j hj).2 hu.size⟩)

end Go.Proofs.YtiimccogojkldaaGreatDoor

/- Replace. -/
namespace Go.Proofs.YtiimccogojkldaaGreatDoor
open Go.RowKit Go.Hw Go
set_option linter.unusedVariables false
set_option linter.unusedSimpArgs false

open Tm
/-- what Replace answers -/
def repF (t : Tm) (p : List Int) (u : Tm) : Tm × Int :=
  if wf nmB t = false ∨ wf nmB u = false then (nulT, 1) else match subI t p with
    | none => (nulT, 2)
    | some _ => if formed nmB (putAt t (p.map Int.toNat) u) = false then (nulT, 4) else if (sortsT (putAt t (p.map Int.toNat) u)).isSome = false then (nulT, 11) else (putAt t (p.map Int.toNat) u, 0)
theorem sizes_set (z : Tm) : ∀ (L : List Tm) (i : Nat), i < L.length → sizes (L.set i z) + (tg L i).size = sizes L + z.size
  | a :: L, 0, _ => by
    show sizes (z :: L) + a.size = sizes (a :: L) + z.size
    simp only [sizes]; omega
  | a :: L, i + 1, h => by
    have ih := sizes_set z L i (by simpa using h)
    show sizes (a :: L.set i z) + (tg L i).size = sizes (a :: L) + z.size
    simp only [sizes]; omega
theorem putAt_size (y : Tm) : ∀ (p : List Nat) (t : Tm), okP t p → (putAt t p y).size ≤ t.size + y.size
  | [], t, _ => by
    have e : putAt t [] y = y := by cases t; rfl
    rw [e]; omega
  | i :: p, t, h => by
    obtain ⟨nm, so, L⟩ := t
    have h1 := putAt_size y p (tg L i) h.2
    have h2 := sizes_set (putAt (tg L i) p y) L i h.1
    have e : putAt (.mk nm so L) (i :: p) y = .mk nm so (L.set i (putAt (tg L i) p y)) := rfl
    rw [e, size_eq, size_eq]
    simp only [Tm.kids]
    omega
theorem AdrP.ext {w w' : World} (hE : Ext w w') : ∀ {p : List Nat} {a a' : Nat × Nat}, AdrP w p a a' → AdrP w' p a a'
  | [], _, _, h => h
  | i :: p, a, a', ⟨g, off, n, c, h1, h2⟩ => ⟨g, off, n, c, hE.cell h1 (fun h => h), AdrP.ext hE h2⟩
set_option maxRecDepth 100000 in
set_option maxHeartbeats 2000000 in
theorem Replace_x (t u : Tm) (p : List Int) (tv uv pv : Value) (S T : Nat → Prop) (w : World) (hT : TmR S w t tv) (hU : TmR S w u uv) (hS : ∀ k, S k → k < w.heap.size) (hP : SlR T w 1 pv p.length (p.map (Value.int .i64))) (htab : AscT w) (hsz : t.size ≤ 100000) (hszu : u.size ≤ 100000) (hl : p.length ≤ 1000000) :
    Calls Tryz.prog 29 #[tv, pv, uv] w fun e w' => ∃ r, e = .returned (.tuple #[tV (repF t p u).1 r, .int .i64 (repF t p u).2]) ∧ TlR (fun k => w.heap.size ≤ k ∧ k < w'.heap.size) w' (repF t p u).1.kids r ∧ Ext w w' := by
  obtain ⟨pa, pc, rfl⟩ := SlR.shape hP
  have HP := Lib.hid hP
  obtain ⟨a, cap, rfl, hT⟩ := hT
  obtain ⟨ua, uc, rfl, hU⟩ := hU
  have HT := Lib.hid hT
  have HU := Lib.hid hU
  have HE0 := Lib.hid ((((Upd.refl (fun _ => False) w).alloc (.cells #[.string t.name, .string t.sort, .slice a t.kids.length cap] 25)).alloc (.cells #[.string u.name, .string u.sort, .slice ua u.kids.length uc] 25)).alloc (.cells #[.string ⟨#[]⟩, .string ⟨#[]⟩, .slice none 0 0] 25))
  have HB3 := Lib.hid (allocOld (allocOld (alloc0 w (.cells #[.string t.name, .string t.sort, .slice a t.kids.length cap] 25)) (.cells #[.string u.name, .string u.sort, .slice ua u.kids.length uc] 25)) (.cells #[.string ⟨#[]⟩, .string ⟨#[]⟩, .slice none 0 0] 25))
  have HB5 := Lib.hid (allocOld (alloc_at (w.alloc (.cells #[.string t.name, .string t.sort, .slice a t.kids.length cap] 25)) (.cells #[.string u.name, .string u.sort, .slice ua u.kids.length uc] 25) (n := w.heap.size + 1) (by simp)) (.cells #[.string ⟨#[]⟩, .string ⟨#[]⟩, .slice none 0 0] 25))
  have HB6 := Lib.hid (alloc_at ((w.alloc (.cells #[.string t.name, .string t.sort, .slice a t.kids.length cap] 25)).alloc (.cells #[.string u.name, .string u.sort, .slice ua u.kids.length uc] 25)) (.cells #[.string ⟨#[]⟩, .string ⟨#[]⟩, .slice none 0 0] 25) (n := w.heap.size + 2) (by simp))
  have hz0 : (((w.alloc (.cells #[.string t.name, .string t.sort, .slice a t.kids.length cap] 25)).alloc (.cells #[.string u.name, .string u.sort, .slice ua u.kids.length uc] 25)).alloc (.cells #[.string ⟨#[]⟩, .string ⟨#[]⟩, .slice none 0 0] 25)).heap.size = w.heap.size + 3 := by simp
  have HZ0 := Lib.hid hz0
  have HASC := Lib.hid (fun W (hW : Ext w W) => asc_ext htab hW)
  have HWT := Lib.hid (fun W (hW : Ext w W) => wellFormed_x t _ W (asc_ext htab hW) ⟨a, cap, rfl, (hT.ext hW).weaken (fun k hk => Nat.lt_of_lt_of_le (hS k hk) hW.size)⟩ (by omega))
  have HWU := Lib.hid (fun W (hW : Ext w W) => wellFormed_x u _ W (asc_ext htab hW) ⟨ua, uc, rfl, (hU.ext hW).weaken (fun k hk => Nat.lt_of_lt_of_le (hS k hk) hW.size)⟩ (by omega))
  have HSS := Lib.hid hS
  have HF0 : Hid (wf nmB t = false ∨ wf nmB u = false → repF t p u = (nulT, 1)) := Lib.hid (fun h => by unfold repF; rw [if_pos h])
  have HF1 : Hid (wf nmB t = true → wf nmB u = true → subI t p = none → repF t p u = (nulT, 2)) := Lib.hid (fun h h' h2 => by unfold repF; rw [if_neg (by rw [h, h']; simp), h2])
  have HF2 : Hid (wf nmB t = true → wf nmB u = true → ∀ x, subI t p = some x → repF t p u = if formed nmB (putAt t (p.map Int.toNat) u) = false then (nulT, 4) else if (sortsT (putAt t (p.map Int.toNat) u)).isSome = false then (nulT, 11) else (putAt t (p.map Int.toNat) u, 0)) := Lib.hid (fun h h' x h2 => by unfold repF; rw [if_neg (by rw [h, h']; simp), h2])
  obtain ⟨F, hF⟩ : ∃ F, repF t p u = F := ⟨_, rfl⟩
  rw [hF] at HF0 HF1 HF2 ⊢
  dsimp only [tV] at HWT HWU ⊢
  obtain ⟨WT, hWT⟩ : ∃ b, wf nmB t = b := ⟨_, rfl⟩
  obtain ⟨WU, hWU⟩ : ∃ b, wf nmB u = b := ⟨_, rfl⟩
  rw [hWT] at HWT HF0 HF1 HF2
  rw [hWU] at HWU HF0 HF1 HF2
  clear hP hT hU hS htab hF hWT hWU hz0
  have k0 := cellRow HB3.out 0 (.string t.name) rfl
  have k1 := cellRow HB3.out 1 (.string t.sort) rfl
  have k2 := cellRow HB3.out 2 (.slice a t.kids.length cap) rfl
  have l0 := cellRow HB5.out 0 (.string u.name) rfl
  have l1 := cellRow HB5.out 1 (.string u.sort) rfl
  have l2 := cellRow HB5.out 2 (.slice ua u.kids.length uc) rfl
  go_enter Tryz.func29, Tryz.ntmps29
  go_wp2_with fail
  refine (HWT.out _ HE0.out).mono ?_
  rintro e w4 ⟨rfl, hw4⟩
  have H4 := Lib.hid (HE0.out.trans hw4)
  have HB34 := Lib.hid (hw4.heap HB3.out (fun h => h))
  have HB54 := Lib.hid (hw4.heap HB5.out (fun h => h))
  have HB64 := Lib.hid (hw4.heap HB6.out (fun h => h))
  have HZ4 : Hid (w.heap.size + 3 ≤ w4.heap.size) := Lib.hid (by rw [← HZ0.out]; exact hw4.size)
  clear hw4 k0 k1 k2 l0 l1 l2 HWT HB3 HB5 HB6 HE0
  have k0 := cellRow HB34.out 0 (.string t.name) rfl
  have k1 := cellRow HB34.out 1 (.string t.sort) rfl
  have k2 := cellRow HB34.out 2 (.slice a t.kids.length cap) rfl
  have l0 := cellRow HB54.out 0 (.string u.name) rfl
  have l1 := cellRow HB54.out 1 (.string u.sort) rfl
  have l2 := cellRow HB54.out 2 (.slice ua u.kids.length uc) rfl
  cases WT
  · have HV := Lib.hid (HF0.out (.inl (by simp)))
    clear HWU
    have f2 := fun i => frozenRow HB64.out i
    have d0 := cellRow HB64.out 0 (.string ⟨#[]⟩) rfl
    have d1 := cellRow HB64.out 1 (.string ⟨#[]⟩) rfl
    have d2 := cellRow HB64.out 2 (.slice none 0 0) rfl
    go_wp2_with fail
    have hr := st3_heap HB64.out (.string ⟨#[]⟩) (.string ⟨#[]⟩) (.slice none 0 0)
    have hu := st3_upd' w4 (w.heap.size + 2) (.string ⟨#[]⟩) (.string ⟨#[]⟩) (.slice none 0 0)
    have e0 := cellRow hr 0 (.string ⟨#[]⟩) rfl
    have e1 := cellRow hr 1 (.string ⟨#[]⟩) rfl
    have e2 := cellRow hr 2 (.slice none 0 0) rfl
    refine bodyPost_ret (v := .tuple #[.agg #[.string ⟨#[]⟩, .string ⟨#[]⟩, .slice none 0 0], .int .i64 1]) (by simp [results, Tryz.results29, go_sem, e0, e1, e2]) rfl ⟨.slice none 0 0, by rw [HV.out]; rfl, by rw [HV.out]; exact TlR.nil _ _, H4.out.trans' hu (fun j hj e => by omega)⟩
  go_wp2_with fail
  refine (HWU.out _ H4.out).mono ?_
  rintro e w5 ⟨rfl, hw5⟩
  have H5 := Lib.hid (H4.out.trans hw5)
  have HB35 := Lib.hid (hw5.heap HB34.out (fun h => h))
  have HB55 := Lib.hid (hw5.heap HB54.out (fun h => h))
  have HB65 := Lib.hid (hw5.heap HB64.out (fun h => h))
  have HZ5 : Hid (w.heap.size + 3 ≤ w5.heap.size) := Lib.hid (Nat.le_trans HZ4.out hw5.size)
  clear hw5 k0 k1 k2 l0 l1 l2 HWU HB34 HB54 HB64 HZ4
  have k0 := cellRow HB35.out 0 (.string t.name) rfl
  have k1 := cellRow HB35.out 1 (.string t.sort) rfl
  have k2 := cellRow HB35.out 2 (.slice a t.kids.length cap) rfl
  have l0 := cellRow HB55.out 0 (.string u.name) rfl
  have l1 := cellRow HB55.out 1 (.string u.sort) rfl
  have l2 := cellRow HB55.out 2 (.slice ua u.kids.length uc) rfl
  cases WU
  · have HV := Lib.hid (HF0.out (.inr (by simp)))
    have f2 := fun i => frozenRow HB65.out i
    have d0 := cellRow HB65.out 0 (.string ⟨#[]⟩) rfl
    have d1 := cellRow HB65.out 1 (.string ⟨#[]⟩) rfl
    have d2 := cellRow HB65.out 2 (.slice none 0 0) rfl
    go_wp2_with fail
    have hr := st3_heap HB65.out (.string ⟨#[]⟩) (.string ⟨#[]⟩) (.slice none 0 0)
    have hu := st3_upd' w5 (w.heap.size + 2) (.string ⟨#[]⟩) (.string ⟨#[]⟩) (.slice none 0 0)
    have e0 := cellRow hr 0 (.string ⟨#[]⟩) rfl
    have e1 := cellRow hr 1 (.string ⟨#[]⟩) rfl
    have e2 := cellRow hr 2 (.slice none 0 0) rfl
    refine bodyPost_ret (v := .tuple #[.agg #[.string ⟨#[]⟩, .string ⟨#[]⟩, .slice none 0 0], .int .i64 1]) (by simp [results, Tryz.results29, go_sem, e0, e1, e2]) rfl ⟨.slice none 0 0, by rw [HV.out]; rfl, by rw [HV.out]; exact TlR.nil _ _, H5.out.trans' hu (fun j hj e => by omega)⟩
  have HF1' := Lib.hid (HF1.out (by simp) (by simp))
  have HF2' := Lib.hid (HF2.out (by simp) (by simp))
  clear HF0 HF1 HF2
  have HC1 := Lib.hid (copied_x t _ S w5 ⟨a, cap, rfl, HT.out.ext H5.out⟩ (fun k hk => Nat.lt_of_lt_of_le (HSS.out k hk) H5.out.size) (by omega))
  dsimp only [tV] at HC1
  go_wp2_with fail
  refine HC1.out.mono ?_
  rintro e w6 ⟨r1, B1, rfl, hO6, hb6, hw6⟩
  obtain ⟨ra, rc, hr1⟩ := TlO.shape hO6
  subst hr1
  have hz7 := (Upd.refl (fun _ => False) w6).alloc (.cells #[.string t.name, .string t.sort, .slice ra t.kids.length rc] 25)
  have H7 := Lib.hid ((H5.out.trans hw6).trans hz7)
  have HB57 := Lib.hid (hz7.heap (hw6.heap HB55.out (fun h => h)) (fun h => h))
  have HB67 := Lib.hid (hz7.heap (hw6.heap HB65.out (fun h => h)) (fun h => h))
  have HB87 := Lib.hid (alloc0 w6 (.cells #[.string t.name, .string t.sort, .slice ra t.kids.length rc] 25))
  have HO7 := Lib.hid (hO6.kept hz7 (fun _ _ h => h))
  have HBF : Hid (∀ j, B1 j → w.heap.size + 3 ≤ j ∧ j < w6.heap.size) := Lib.hid (fun j hj => ⟨Nat.le_trans HZ5.out (hb6 j hj).1, (hb6 j hj).2⟩)
  have HZ6 : Hid (w.heap.size + 3 ≤ w6.heap.size) := Lib.hid (Nat.le_trans HZ5.out hw6.size)
  have HZ7 : Hid ((w6.alloc (.cells #[.string t.name, .string t.sort, .slice ra t.kids.length rc] 25)).heap.size = w6.heap.size + 1) := Lib.hid (by simp)
  clear hO6 hb6 hw6 hz7 HC1 k0 k1 k2 l0 l1 l2 HB35 HB55 HB65
  have HAT := Lib.hid (at_x t p (.slice pa p.length pc) (w6.heap.size, 0) B1 T (w6.alloc (.cells #[.string t.name, .string t.sort, .slice ra t.kids.length rc] 25)) ⟨ra, rc, cellRow HB87.out 0 _ rfl, cellRow HB87.out 1 _ rfl, cellRow HB87.out 2 _ rfl, HO7.out.read⟩ (SlR.kept HP.out H7.out (fun _ _ h => h)) hl)
  go_wp2_with fail
  generalize w6.alloc (.cells #[.string t.name, .string t.sort, .slice ra t.kids.length rc] 25) = w7 at *
  refine HAT.out.mono ?_
  rintro e w8 ⟨hat, rfl⟩
  rcases hat with ⟨hs, rfl⟩ | ⟨x, a', hs, rfl, had, hta⟩
  · have HV := Lib.hid (HF1'.out hs)
    have f2 := fun i => frozenRow HB67.out i
    have d0 := cellRow HB67.out 0 (.string ⟨#[]⟩) rfl
    have d1 := cellRow HB67.out 1 (.string ⟨#[]⟩) rfl
    have d2 := cellRow HB67.out 2 (.slice none 0 0) rfl
    go_wp2_with fail
    have hr := st3_heap HB67.out (.string ⟨#[]⟩) (.string ⟨#[]⟩) (.slice none 0 0)
    have hu := st3_upd' w7 (w.heap.size + 2) (.string ⟨#[]⟩) (.string ⟨#[]⟩) (.slice none 0 0)
    have e0 := cellRow hr 0 (.string ⟨#[]⟩) rfl
    have e1 := cellRow hr 1 (.string ⟨#[]⟩) rfl
    have e2 := cellRow hr 2 (.slice none 0 0) rfl
    refine bodyPost_ret (v := .tuple #[.agg #[.string ⟨#[]⟩, .string ⟨#[]⟩, .slice none 0 0], .int .i64 2]) (by simp [results, Tryz.results29, go_sem, e0, e1, e2]) rfl ⟨.slice none 0 0, by rw [HV.out]; rfl, by rw [HV.out]; exact TlR.nil _ _, H7.out.trans' hu (fun j hj e => by omega)⟩
  have HF3 := Lib.hid (HF2'.out x hs)
  have hok := (subI_ok hs).1
  have HOK := Lib.hid hok
  have HADR := Lib.hid had
  clear hs had hta HAT HF1' HF2'
  obtain ⟨o, ho⟩ : ∃ o, putAt t (p.map Int.toNat) u = o := ⟨_, rfl⟩
  have HOO := Lib.hid ho
  have hos := putAt_size u (p.map Int.toNat) t hok
  rw [ho] at HF3 hos
  have HOS := Lib.hid (show o.size ≤ 200000 by omega)
  clear ho hok hos
  have l0 := cellRow HB57.out 0 (.string u.name) rfl
  have l1 := cellRow HB57.out 1 (.string u.sort) rfl
  have l2 := cellRow HB57.out 2 (.slice ua u.kids.length uc) rfl
  have HC2 := Lib.hid (copied_x u _ S w7 ⟨ua, uc, rfl, HU.out.ext H7.out⟩ (fun k hk => Nat.lt_of_lt_of_le (HSS.out k hk) H7.out.size) (by omega))
  dsimp only [tV] at HC2
  obtain ⟨ab, ao⟩ := a'
  go_wp2_with fail
  refine HC2.out.mono ?_
  rintro e w8 ⟨r2, B2, rfl, hO8, hb8, hw8⟩
  obtain ⟨sa, sc, hr2⟩ := TlO.shape hO8
  subst hr2
  have hput := put_box (y := u) (u := .slice sa u.kids.length sc) (S := B2) (w := w8) (hw8.heap HB87.out (fun h => h)) (HO7.out.kept hw8 (fun _ _ h => h)) (fun h => by have := (HBF.out _ h).2; omega) hO8.read (fun k hk => ⟨fun h => by have h1 := (HBF.out k h).2; have h2 := (hb8 k hk).1; have h3 := HZ7.out; omega, fun e => by have h2 := (hb8 k hk).1; have h3 := HZ7.out; omega⟩) HOK.out (AdrP.ext hw8 HADR.out)
  rw [HOO.out] at hput
  obtain ⟨hwhere, ⟨cur, hcur, hcb⟩, u', hbox, hkids⟩ := hput
  have HW8 : Hid (w.heap.size + 3 ≤ ab) := Lib.hid (by
    rcases hwhere with h | h
    · have := HZ6.out; dsimp only at h; omega
    · exact (HBF.out _ h).1)
  have H8 := Lib.hid (H7.out.trans hw8)
  have HB68 := Lib.hid (hw8.heap HB67.out (fun h => h))
  have HZ8 : Hid (w6.heap.size < w8.heap.size) := Lib.hid (by have h1 := HZ7.out; have h2 := hw8.size; omega)
  have HB2F : Hid (∀ j, B2 j → w6.heap.size < j ∧ j < w8.heap.size) := Lib.hid (fun j hj => ⟨by have h1 := HZ7.out; have h2 := (hb8 j hj).1; omega, (hb8 j hj).2⟩)
  obtain ⟨oa, oc, hou⟩ := hkids.shape
  subst hou
  have HBX : Hid ((((w8.setCell ⟨ab, ao, none⟩ (.string u.name)).setCell ⟨ab, ao + 1, none⟩ (.string u.sort)).setCell ⟨ab, ao + 2, none⟩ (.slice sa u.kids.length sc)).heap[w6.heap.size]? = some (.cells #[.string o.name, .string o.sort, .slice oa o.kids.length oc] 25 (0, 0))) := Lib.hid hbox
  have HKD : Hid (TlR (fun k => B1 k ∨ B2 k) (((w8.setCell ⟨ab, ao, none⟩ (.string u.name)).setCell ⟨ab, ao + 1, none⟩ (.string u.sort)).setCell ⟨ab, ao + 2, none⟩ (.slice sa u.kids.length sc)) o.kids (.slice oa o.kids.length oc)) := Lib.hid hkids
  have HU9 : Hid (Upd (fun k => k = ab) w8 (((w8.setCell ⟨ab, ao, none⟩ (.string u.name)).setCell ⟨ab, ao + 1, none⟩ (.string u.sort)).setCell ⟨ab, ao + 2, none⟩ (.slice sa u.kids.length sc))) := Lib.hid (st3_upd w8 (ab, ao) u.name u.sort (.slice sa u.kids.length sc))
  have m0 : w8.cell? ⟨ab, ao, none⟩ = some (cur[ao]'(by simp only at hcb; omega)) := cellRow hcur ao _ (Array.getElem?_eq_getElem _)
  have m1 : w8.cell? ⟨ab, ao + 1, none⟩ = some (cur[ao + 1]'(by simp only at hcb; omega)) := cellRow hcur (ao + 1) _ (Array.getElem?_eq_getElem _)
  have m2 : w8.cell? ⟨ab, ao + 2, none⟩ = some (cur[ao + 2]'(by simp only at hcb; omega)) := cellRow hcur (ao + 2) _ (Array.getElem?_eq_getElem _)
  have fz := fun i => frozenRow hcur i
  generalize cur[ao]'(by simp only at hcb; omega) = v0 at m0
  generalize cur[ao + 1]'(by simp only at hcb; omega) = v1 at m1
  generalize cur[ao + 2]'(by simp only at hcb; omega) = v2 at m2
  clear hO8 hb8 hw8 hbox hkids hwhere hcur hcb HC2 l0 l1 l2 HO7 HB87
  go_upto_region 8 with fail
  generalize hw9 : (((w8.setCell ⟨ab, ao, none⟩ (.string u.name)).setCell ⟨ab, ao + 1, none⟩ (.string u.sort)).setCell ⟨ab, ao + 2, none⟩ (.slice sa u.kids.length sc)) = w9 at *
  clear hw9 m0 m1 m2 fz
  have H9 : Hid (Ext w w9) := Lib.hid (H8.out.trans' HU9.out (fun j hj e => by have := HW8.out; omega))
  have HB69 := Lib.hid (HU9.out.heap HB68.out (fun e => by have := HW8.out; omega))
  have HKF : Hid (TlR (fun k => w.heap.size + 3 ≤ k ∧ k < w9.heap.size) w9 o.kids (.slice oa o.kids.length oc)) := Lib.hid (HKD.out.weaken (fun k hk => by
    have h1 := HU9.out.size
    have h2 := HZ8.out
    have h3 := HZ6.out
    rcases hk with hk | hk
    · have := HBF.out k hk; omega
    · have := HB2F.out k hk; omega))
  have HZ9 : Hid (w6.heap.size < w9.heap.size) := Lib.hid (Nat.lt_of_lt_of_le HZ8.out HU9.out.size)
  clear HU9 HKD H8 HB68 HZ8
  have HFM := Lib.hid (formed_x o _ w9 (HASC.out _ H9.out) ⟨oa, oc, rfl, HKF.out.weaken (fun k hk => hk.2)⟩ (by have := HOS.out; omega))
  dsimp only [tV] at HFM
  obtain ⟨FO, hFO⟩ : ∃ b, formed nmB o = b := ⟨_, rfl⟩
  rw [hFO] at HFM
  have HF4 : Hid (F = if FO = false then (nulT, 4) else if (sortsT o).isSome = false then (nulT, 11) else (o, 0)) := Lib.hid (by rw [HF3.out, hFO])
  clear hFO HF3
  have k0 := cellRow HBX.out 0 (.string o.name) rfl
  have k1 := cellRow HBX.out 1 (.string o.sort) rfl
  have k2 := cellRow HBX.out 2 (.slice oa o.kids.length oc) rfl
  go_wp2_with fail
  refine HFM.out.mono ?_
  rintro e wa ⟨rfl, hwa⟩
  have Ha := Lib.hid (H9.out.trans hwa)
  have HB6a := Lib.hid (hwa.heap HB69.out (fun h => h))
  have HBXa := Lib.hid (hwa.heap HBX.out (fun h => h))
  have HKFa : Hid (TlR (fun k => w.heap.size + 3 ≤ k ∧ k < wa.heap.size) wa o.kids (.slice oa o.kids.length oc)) := Lib.hid ((HKF.out.ext hwa).weaken (fun k hk => ⟨hk.1, Nat.lt_of_lt_of_le hk.2 hwa.size⟩))
  clear hwa k0 k1 k2 HFM HB69 HBX HKF H9
  cases FO
  · have HV : Hid (F = (nulT, 4)) := Lib.hid (by rw [HF4.out, if_pos rfl])
    have f2 := fun i => frozenRow HB6a.out i
    have d0 := cellRow HB6a.out 0 (.string ⟨#[]⟩) rfl
    have d1 := cellRow HB6a.out 1 (.string ⟨#[]⟩) rfl
    have d2 := cellRow HB6a.out 2 (.slice none 0 0) rfl
    go_wp2_with fail
    have hr := st3_heap HB6a.out (.string ⟨#[]⟩) (.string ⟨#[]⟩) (.slice none 0 0)
    have hu := st3_upd' wa (w.heap.size + 2) (.string ⟨#[]⟩) (.string ⟨#[]⟩) (.slice none 0 0)
    have e0 := cellRow hr 0 (.string ⟨#[]⟩) rfl
    have e1 := cellRow hr 1 (.string ⟨#[]⟩) rfl
    have e2 := cellRow hr 2 (.slice none 0 0) rfl
    refine bodyPost_ret (v := .tuple #[.agg #[.string ⟨#[]⟩, .string ⟨#[]⟩, .slice none 0 0], .int .i64 4]) (by simp [results, Tryz.results29, go_sem, e0, e1, e2]) rfl ⟨.slice none 0 0, by rw [HV.out]; rfl, by rw [HV.out]; exact TlR.nil _ _, Ha.out.trans' hu (fun j hj e => by omega)⟩
  have HF5 : Hid (F = if (sortsT o).isSome = false then (nulT, 11) else (o, 0)) := Lib.hid (by rw [HF4.out, if_neg (by simp)])
  have k0 := cellRow HBXa.out 0 (.string o.name) rfl
  have k1 := cellRow HBXa.out 1 (.string o.sort) rfl
  have k2 := cellRow HBXa.out 2 (.slice oa o.kids.length oc) rfl
  have hzb := (Upd.refl (fun _ => False) wa).alloc (.cells #[.string o.name, .string o.sort, .slice oa o.kids.length oc] 25)
  have hxb := alloc0 wa (.cells #[.string o.name, .string o.sort, .slice oa o.kids.length oc] 25)
  have HSR := Lib.hid (sorts_x o wa.heap.size 0 1 0 oc oa (wa.alloc (.cells #[.string o.name, .string o.sort, .slice oa o.kids.length oc] 25)) ⟨cellRow hxb 0 _ rfl, cellRow hxb 1 _ rfl, cellRow hxb 2 _ rfl⟩ ((HKFa.out.ext hzb).weaken (fun k hk => Nat.lt_of_lt_of_le hk.2 hzb.size)) (by have := HOS.out; omega))
  have Hb := Lib.hid (Ha.out.trans hzb)
  have HB6b := Lib.hid (hzb.heap HB6a.out (fun h => h))
  have HBXb := Lib.hid (hzb.heap HBXa.out (fun h => h))
  have HKFb : Hid (TlR (fun k => w.heap.size + 3 ≤ k ∧ k < (wa.alloc (.cells #[.string o.name, .string o.sort, .slice oa o.kids.length oc] 25)).heap.size) (wa.alloc (.cells #[.string o.name, .string o.sort, .slice oa o.kids.length oc] 25)) o.kids (.slice oa o.kids.length oc)) := Lib.hid ((HKFa.out.ext hzb).weaken (fun k hk => ⟨hk.1, Nat.lt_of_lt_of_le hk.2 hzb.size⟩))
  clear hzb hxb HF4
  go_wp2_with fail
  refine HSR.out.mono ?_
  rintro e wc ⟨hp, hwc⟩
  have Hc := Lib.hid (Hb.out.trans hwc)
  have HB6c := Lib.hid (hwc.heap HB6b.out (fun h => h))
  have HBXc := Lib.hid (hwc.heap HBXb.out (fun h => h))
  have HKFc : Hid (TlR (fun k => w.heap.size + 3 ≤ k ∧ k < wc.heap.size) wc o.kids (.slice oa o.kids.length oc)) := Lib.hid ((HKFb.out.ext hwc).weaken (fun k hk => ⟨hk.1, Nat.lt_of_lt_of_le hk.2 hwc.size⟩))
  unfold SortsP at hp
  clear hwc HSR k0 k1 k2
  cases hso : sortsT o with
  | none =>
    rw [hso] at hp
    simp only at hp
    subst hp
    have HV : Hid (F = (nulT, 11)) := Lib.hid (by rw [HF5.out, hso]; rfl)
    clear hso
    have f2 := fun i => frozenRow HB6c.out i
    have d0 := cellRow HB6c.out 0 (.string ⟨#[]⟩) rfl
    have d1 := cellRow HB6c.out 1 (.string ⟨#[]⟩) rfl
    have d2 := cellRow HB6c.out 2 (.slice none 0 0) rfl
    go_wp2_with fail
    have hr := st3_heap HB6c.out (.string ⟨#[]⟩) (.string ⟨#[]⟩) (.slice none 0 0)
    have hu := st3_upd' wc (w.heap.size + 2) (.string ⟨#[]⟩) (.string ⟨#[]⟩) (.slice none 0 0)
    have e0 := cellRow hr 0 (.string ⟨#[]⟩) rfl
    have e1 := cellRow hr 1 (.string ⟨#[]⟩) rfl
    have e2 := cellRow hr 2 (.slice none 0 0) rfl
    refine bodyPost_ret (v := .tuple #[.agg #[.string ⟨#[]⟩, .string ⟨#[]⟩, .slice none 0 0], .int .i64 11]) (by simp [results, Tryz.results29, go_sem, e0, e1, e2]) rfl ⟨.slice none 0 0, by rw [HV.out]; rfl, by rw [HV.out]; exact TlR.nil _ _, Hc.out.trans' hu (fun j hj e => by omega)⟩
  | some m =>
    rw [hso] at hp
    simp only at hp
    obtain ⟨bm, rfl, _, _⟩ := hp
    have HV : Hid (F = (o, 0)) := Lib.hid (by rw [HF5.out, hso]; rfl)
    clear hso
    have k0 := cellRow HBXc.out 0 (.string o.name) rfl
    have k1 := cellRow HBXc.out 1 (.string o.sort) rfl
    have k2 := cellRow HBXc.out 2 (.slice oa o.kids.length oc) rfl
    have f2 := fun i => frozenRow HB6c.out i
    have d0 := cellRow HB6c.out 0 (.string ⟨#[]⟩) rfl
    have d1 := cellRow HB6c.out 1 (.string ⟨#[]⟩) rfl
    have d2 := cellRow HB6c.out 2 (.slice none 0 0) rfl
    go_wp2_with fail
    have hr := st3_heap HB6c.out (.string o.name) (.string o.sort) (.slice oa o.kids.length oc)
    have hu := st3_upd' wc (w.heap.size + 2) (.string o.name) (.string o.sort) (.slice oa o.kids.length oc)
    have e0 := cellRow hr 0 (.string o.name) rfl
    have e1 := cellRow hr 1 (.string o.sort) rfl
    have e2 := cellRow hr 2 (.slice oa o.kids.length oc) rfl
    refine bodyPost_ret (v := .tuple #[.agg #[.string o.name, .string o.sort, .slice oa o.kids.length oc], .int .i64 0]) (by simp [results, Tryz.results29, go_sem, e0, e1, e2]) rfl ⟨.slice oa o.kids.length oc, by rw [HV.out], ?_, Hc.out.trans' hu (fun j hj e => by omega)⟩
    rw [HV.out]
    exact (HKFc.out.kept hu (fun k hk e => by have := hk.1; omega)).weaken (fun k hk => ⟨by have := hk.1; omega, Nat.lt_of_lt_of_le hk.2 hu.size⟩)

end Go.Proofs.YtiimccogojkldaaGreatDoor

/- formed and put of the rewrite package. -/
namespace Go.Proofs.YtiimccogojkldaaGreatDoor
open Go.RowKit Go.Hw Go
set_option linter.unusedVariables false
set_option linter.unusedSimpArgs false

open Tm
set_option maxRecDepth 100000 in
set_option maxHeartbeats 2000000 in
theorem rform_x (t : Tm) (v : Value) (w : World) (htab : AscT w) (hR : TmR (fun k => k < w.heap.size) w t v) (hsz : (t.size : Int) ≤ 1000000000000) : Calls Tryz.prog 69 #[v] w fun e w' => e = .returned (.bool (wf nmB t)) ∧ Ext w w' := by
  have HR := Lib.hid hR
  obtain ⟨a, cap, rfl, hT⟩ := hR
  have hb := alloc0 w (.cells #[.string t.name, .string t.sort, .slice a t.kids.length cap] 25)
  have HZ := Lib.hid ((Upd.refl (fun _ => False) w).alloc (.cells #[.string t.name, .string t.sort, .slice a t.kids.length cap] 25))
  have HS := Lib.hid (fun W (hW : Ext w W) => Size_x t _ W (asc_ext htab hW) ((HR.out.ext hW).weaken (fun k hk => Nat.lt_of_lt_of_le hk hW.size)) hsz)
  dsimp only [tV] at HS ⊢
  have c0 := cellRow hb 0 (.string t.name) rfl
  have c1 := cellRow hb 1 (.string t.sort) rfl
  have c2 := cellRow hb 2 (.slice a t.kids.length cap) rfl
  have hpos := size_pos t
  have hz : decide (0 < szF t) = wf nmB t := by
    unfold szF
    by_cases h : wf nmB t = true
    · rw [if_pos h, h, decide_eq_true (by omega)]
    · rw [if_neg h, Bool.eq_false_iff.2 h]; rfl
  have HV := Lib.hid hz
  obtain ⟨X, hX⟩ : ∃ X, szF t = X := ⟨_, rfl⟩
  rw [hX] at HS HV
  clear hz hX hT hb
  go_enter Tryz.func69, Tryz.ntmps69
  go_wp2_with fail
  refine (HS.out _ HZ.out).mono ?_
  rintro e w4 ⟨rfl, hw4⟩
  have H4 := Lib.hid (HZ.out.ext hw4)
  clear hw4 c0 c1 c2
  by_cases h0 : 0 < X
  · have t0 : (0 : Int) < (X : Int) := by omega
    have t1 : decide ((0 : Int) < (X : Int)) = true := decide_eq_true t0
    have HV2 : Hid (wf nmB t = true) := Lib.hid (by rw [← HV.out]; exact decide_eq_true h0)
    go_wp2_with fail
    go_ret
    rw [HV2.out]
    exact ⟨rfl, H4.out⟩
  · have t0 : ¬ (0 : Int) < (X : Int) := by omega
    have t1 : decide ((0 : Int) < (X : Int)) = false := decide_eq_false t0
    have HV2 : Hid (wf nmB t = false) := Lib.hid (by rw [← HV.out]; exact decide_eq_false h0)
    go_wp2_with fail
    go_ret
    rw [HV2.out]
    exact ⟨rfl, H4.out⟩
/-- what put answers -/
def putF (t : Tm) (p : List Nat) (u : Tm) : Tm × Int := if wf nmB (putAt t p u) = true then (putAt t p u, 0) else (nulT, 4)
set_option maxRecDepth 100000 in
set_option maxHeartbeats 2000000 in
theorem put_x (t u : Tm) (p : List Nat) (tv uv pv : Value) (S R T : Nat → Prop) (w : World) (hT : TmR S w t tv) (hU : TmR R w u uv) (hS : ∀ k, S k → k < w.heap.size) (hRR : ∀ k, R k → k < w.heap.size) (hP : SlR T w 1 pv p.length (p.map fun i : Nat => Value.int .i64 (i : Int))) (hok : okP t p) (htab : AscT w) (hsz : t.size ≤ 100000) (hszu : u.size ≤ 100000) (hl : p.length ≤ 1000000) :
    Calls Tryz.prog 96 #[tv, pv, uv] w fun e w' => ∃ r, e = .returned (.tuple #[tV (putF t p u).1 r, .int .i64 (putF t p u).2]) ∧ TlR (fun k => (w.heap.size ≤ k ∧ k < w'.heap.size) ∨ R k) w' (putF t p u).1.kids r ∧ Ext w w' := by
  obtain ⟨pa, pc, rfl⟩ := SlR.shape hP
  have HP := Lib.hid hP
  obtain ⟨a, cap, rfl, hT⟩ := hT
  obtain ⟨ua, uc, rfl, hU⟩ := hU
  have HU := Lib.hid hU
  have HRR := Lib.hid hRR
  have HOK := Lib.hid hok
  have HE0 := Lib.hid ((((Upd.refl (fun _ => False) w).alloc (.cells #[.string t.name, .string t.sort, .slice a t.kids.length cap] 25)).alloc (.cells #[.string u.name, .string u.sort, .slice ua u.kids.length uc] 25)).alloc (.cells #[.string ⟨#[]⟩, .string ⟨#[]⟩, .slice none 0 0] 25))
  have HB3 := Lib.hid (allocOld (allocOld (alloc0 w (.cells #[.string t.name, .string t.sort, .slice a t.kids.length cap] 25)) (.cells #[.string u.name, .string u.sort, .slice ua u.kids.length uc] 25)) (.cells #[.string ⟨#[]⟩, .string ⟨#[]⟩, .slice none 0 0] 25))
  have HB5 := Lib.hid (allocOld (alloc_at (w.alloc (.cells #[.string t.name, .string t.sort, .slice a t.kids.length cap] 25)) (.cells #[.string u.name, .string u.sort, .slice ua u.kids.length uc] 25) (n := w.heap.size + 1) (by simp)) (.cells #[.string ⟨#[]⟩, .string ⟨#[]⟩, .slice none 0 0] 25))
  have HB6 := Lib.hid (alloc_at ((w.alloc (.cells #[.string t.name, .string t.sort, .slice a t.kids.length cap] 25)).alloc (.cells #[.string u.name, .string u.sort, .slice ua u.kids.length uc] 25)) (.cells #[.string ⟨#[]⟩, .string ⟨#[]⟩, .slice none 0 0] 25) (n := w.heap.size + 2) (by simp))
  have hz0 : (((w.alloc (.cells #[.string t.name, .string t.sort, .slice a t.kids.length cap] 25)).alloc (.cells #[.string u.name, .string u.sort, .slice ua u.kids.length uc] 25)).alloc (.cells #[.string ⟨#[]⟩, .string ⟨#[]⟩, .slice none 0 0] 25)).heap.size = w.heap.size + 3 := by simp
  have HZ0 := Lib.hid hz0
  have HASC := Lib.hid (fun W (hW : Ext w W) => asc_ext htab hW)
  have HC1 := Lib.hid (fun W (hW : Ext w W) => rcopied_x t (.agg #[.string t.name, .string t.sort, .slice a t.kids.length cap]) S W ⟨a, cap, rfl, hT.ext hW⟩ (fun k hk => Nat.lt_of_lt_of_le (hS k hk) hW.size) hsz)
  have HF : Hid (putF t p u = if wf nmB (putAt t p u) = true then (putAt t p u, 0) else (nulT, 4)) := Lib.hid rfl
  obtain ⟨F, hF⟩ : ∃ F, putF t p u = F := ⟨_, rfl⟩
  rw [hF] at HF ⊢
  dsimp only [tV] at HC1 ⊢
  clear hP hT hU hS hRR htab hF hz0 hok
  have k0 := cellRow HB3.out 0 (.string t.name) rfl
  have k1 := cellRow HB3.out 1 (.string t.sort) rfl
  have k2 := cellRow HB3.out 2 (.slice a t.kids.length cap) rfl
  go_enter Tryz.func96, Tryz.ntmps96
  go_wp2_with fail
  refine (HC1.out _ HE0.out).mono ?_
  rintro e w6 ⟨r1, B1, rfl, hO6, hb6, hw6⟩
  obtain ⟨ra, rc, hr1⟩ := TlO.shape hO6
  subst hr1
  have hz7 := (Upd.refl (fun _ => False) w6).alloc (.cells #[.string t.name, .string t.sort, .slice ra t.kids.length rc] 25)
  have H7 := Lib.hid ((HE0.out.trans hw6).trans hz7)
  have HB57 := Lib.hid (hz7.heap (hw6.heap HB5.out (fun h => h)) (fun h => h))
  have HB67 := Lib.hid (hz7.heap (hw6.heap HB6.out (fun h => h)) (fun h => h))
  have HB87 := Lib.hid (alloc0 w6 (.cells #[.string t.name, .string t.sort, .slice ra t.kids.length rc] 25))
  have HO7 := Lib.hid (hO6.kept hz7 (fun _ _ h => h))
  have HZ6 : Hid (w.heap.size + 3 ≤ w6.heap.size) := Lib.hid (by rw [← HZ0.out]; exact hw6.size)
  have HBF : Hid (∀ j, B1 j → w.heap.size + 3 ≤ j ∧ j < w6.heap.size) := Lib.hid (fun j hj => by have h1 := hb6 j hj; rw [HZ0.out] at h1; exact h1)
  have HZ7 : Hid ((w6.alloc (.cells #[.string t.name, .string t.sort, .slice ra t.kids.length rc] 25)).heap.size = w6.heap.size + 1) := Lib.hid (by simp)
  have HTA : Hid (TmA B1 (w6.alloc (.cells #[.string t.name, .string t.sort, .slice ra t.kids.length rc] 25)) (w6.heap.size, 0) t) := Lib.hid ⟨ra, rc, cellRow HB87.out 0 _ rfl, cellRow HB87.out 1 _ rfl, cellRow HB87.out 2 _ rfl, HO7.out.read⟩
  clear hO6 hb6 hw6 hz7 HC1 k0 k1 k2 HB3 HB5 HB6 HE0 HZ0
  go_wp2_with fail
  generalize w6.alloc (.cells #[.string t.name, .string t.sort, .slice ra t.kids.length rc] 25) = w8 at *
  have HP8 := Lib.hid (SlR.kept HP.out H7.out (fun _ _ h => h))
  obtain ⟨n8, hn8⟩ : ∃ n, w6.heap.size = n := ⟨_, rfl⟩
  rw [hn8] at HTA HB87 ⊢
  have HN8 := Lib.hid hn8
  clear hn8
  go_loopg [9, 16] p.length (fun gk qv iv wr => ∃ (k : Nat) (c : Nat × Nat) (x : Tm), qv = .pointer (some ⟨c.1, c.2, none⟩) ∧ iv = .int .i64 (k : Int) ∧ gk = p.length - k ∧ k ≤ p.length ∧ Hid (okP x (p.drop k)) ∧ Hid (AdrP w8 (p.take k) (n8, 0) c) ∧ Hid (TmA B1 w8 c x) ∧ w8 = wr)
  case atStart => exact ⟨0, (n8, 0), t, rfl, rfl, rfl, Nat.zero_le _, HOK, Lib.hid rfl, HTA, rfl⟩
  case round =>
    clear HTA
    obtain ⟨k, ⟨cb, co⟩, x, rfl, rfl, rfl, hk, HS, HD, HX, rfl⟩ := hrel
    by_cases hlt : k < p.length
    · obtain ⟨g, off, hga, _, hat⟩ := SlR.one_at (d := (0 : Nat)) HP8.out (by omega)
      subst hga
      have q0 := hat k hlt
      have z0 : (0 : Int) ≤ (k : Int) := by omega
      have z1 : (k : Int) < (p.length : Int) := by omega
      have z2 : decide ((k : Int) < (p.length : Int)) = true := decide_eq_true z1
      have z2' : decide (k < p.length) = true := decide_eq_true hlt
      have hd : p.drop k = p.getD k 0 :: p.drop (k + 1) := by
        rw [List.drop_eq_getElem_cons hlt, List.getD_eq_getElem?_getD, List.getElem?_eq_getElem hlt]; rfl
      have htk : p.take (k + 1) = p.take k ++ [p.getD k 0] := by
        rw [List.take_add_one, List.getD_eq_getElem?_getD, List.getElem?_eq_getElem hlt]; rfl
      have hs := HS.out
      rw [hd] at hs
      obtain ⟨j, hj0⟩ : ∃ j, p.getD k 0 = j := ⟨_, rfl⟩
      rw [hj0] at q0 hs htk
      have HTK := Lib.hid htk
      obtain ⟨hj, hs2⟩ := hs
      have HS2 := Lib.hid hs2
      obtain ⟨xa, xc, x0, x1, x2, hx⟩ := HX.out
      dsimp only at x0 x1 x2 q0
      obtain ⟨g2, off2, hga2, _, hat2⟩ := hx.at_ (by omega)
      subst hga2
      obtain ⟨ya, yc, r0, r1, r2, hy⟩ := hat2 j hj
      have HD2 : Hid (AdrP w8 (p.take (k + 1)) (n8, 0) (g2, off2 + j * 3)) := Lib.hid (by
        rw [HTK.out]
        refine AdrP.snoc HD.out ⟨g2, off2, x.kids.length, xc, x2, ?_⟩
        rfl)
      have HX2 : Hid (TmA B1 w8 (g2, off2 + j * 3) (tg x.kids j)) := Lib.hid ⟨ya, yc, r0, by rw [Nat.add_assoc]; exact r1, by rw [Nat.add_assoc]; exact r2, hy⟩
      have u0 : (0 : Int) ≤ (j : Int) := by omega
      have u1 : (j : Int) < (x.kids.length : Int) := by omega
      clear x0 x1 hx hat hat2 r0 r1 r2 hy HTK HD HX hd htk hj0 hs2 HS
      go_wp2_with fail
      go_roundg (p.length - (k + 1))
      case measure => omega
      case rel => exact ⟨k + 1, (g2, off2 + j * 3), tg x.kids j, rfl, by go_num, rfl, by omega, HS2, HD2, HX2, rfl⟩
    · obtain rfl : k = p.length := by omega
      have z2 : decide ((p.length : Int) < (p.length : Int)) = false := decide_eq_false (by omega)
      have hdd := HD.out
      rw [List.take_length] at hdd
      obtain ⟨o, ho⟩ : ∃ o, putAt t p u = o := ⟨_, rfl⟩
      have HOO := Lib.hid ho
      have hos := putAt_size u p t HOK.out
      rw [ho] at hos HF
      have HOS := Lib.hid (show o.size ≤ 200000 by omega)
      have hput := put_box (y := u) (u := .slice ua u.kids.length uc) (S := R) (w := w8) HB87.out HO7.out (fun h => by have := (HBF.out _ h).2; have := HN8.out; omega) (HU.out.ext H7.out) (fun k hk => ⟨fun h => by have h1 := (HBF.out k h).1; have h2 := HRR.out k hk; omega, fun e => by have h2 := HRR.out k hk; have h3 := HN8.out; have h4 := HZ6.out; omega⟩) HOK.out hdd
      rw [HOO.out] at hput
      obtain ⟨hwhere, ⟨cur, hcur, hcb⟩, u', hbox, hkids⟩ := hput
      obtain ⟨oa, oc, hou⟩ := hkids.shape
      subst hou
      have HW8 : Hid (w.heap.size + 3 ≤ cb) := Lib.hid (by
        rcases hwhere with h | h
        · have h1 := HZ6.out; have h2 := HN8.out; dsimp only at h; omega
        · exact (HBF.out _ h).1)
      have HBX : Hid ((((w8.setCell ⟨cb, co, none⟩ (.string u.name)).setCell ⟨cb, co + 1, none⟩ (.string u.sort)).setCell ⟨cb, co + 2, none⟩ (.slice ua u.kids.length uc)).heap[n8]? = some (.cells #[.string o.name, .string o.sort, .slice oa o.kids.length oc] 25 (0, 0))) := Lib.hid hbox
      have HKD : Hid (TlR (fun k => B1 k ∨ R k) (((w8.setCell ⟨cb, co, none⟩ (.string u.name)).setCell ⟨cb, co + 1, none⟩ (.string u.sort)).setCell ⟨cb, co + 2, none⟩ (.slice ua u.kids.length uc)) o.kids (.slice oa o.kids.length oc)) := Lib.hid hkids
      have HU9 : Hid (Upd (fun k => k = cb) w8 (((w8.setCell ⟨cb, co, none⟩ (.string u.name)).setCell ⟨cb, co + 1, none⟩ (.string u.sort)).setCell ⟨cb, co + 2, none⟩ (.slice ua u.kids.length uc))) := Lib.hid (st3_upd w8 (cb, co) u.name u.sort (.slice ua u.kids.length uc))
      have m0 : w8.cell? ⟨cb, co, none⟩ = some (cur[co]'(by simp only at hcb; omega)) := cellRow hcur co _ (Array.getElem?_eq_getElem _)
      have m1 : w8.cell? ⟨cb, co + 1, none⟩ = some (cur[co + 1]'(by simp only at hcb; omega)) := cellRow hcur (co + 1) _ (Array.getElem?_eq_getElem _)
      have m2 : w8.cell? ⟨cb, co + 2, none⟩ = some (cur[co + 2]'(by simp only at hcb; omega)) := cellRow hcur (co + 2) _ (Array.getElem?_eq_getElem _)
      have fz := fun i => frozenRow hcur i
      generalize cur[co]'(by simp only at hcb; omega) = v0 at m0
      generalize cur[co + 1]'(by simp only at hcb; omega) = v1 at m1
      generalize cur[co + 2]'(by simp only at hcb; omega) = v2 at m2
      have l0 := cellRow HB57.out 0 (.string u.name) rfl
      have l1 := cellRow HB57.out 1 (.string u.sort) rfl
      have l2 := cellRow HB57.out 2 (.slice ua u.kids.length uc) rfl
      clear hbox hkids hwhere hcur hcb HO7 HB87 hdd ho hos HS HX HD
      go_upto_region 9 with fail
      generalize hw9 : (((w8.setCell ⟨cb, co, none⟩ (.string u.name)).setCell ⟨cb, co + 1, none⟩ (.string u.sort)).setCell ⟨cb, co + 2, none⟩ (.slice ua u.kids.length uc)) = w9 at *
      clear hw9 m0 m1 m2 fz l0 l1 l2
      have H9 : Hid (Ext w w9) := Lib.hid (H7.out.trans' HU9.out (fun j hj e => by have := HW8.out; omega))
      have HB69 := Lib.hid (HU9.out.heap HB67.out (fun e => by have := HW8.out; omega))
      have HKF : Hid (TlR (fun k => (k ≠ w.heap.size + 2 ∧ w.heap.size ≤ k ∧ k < w9.heap.size) ∨ R k) w9 o.kids (.slice oa o.kids.length oc)) := Lib.hid (HKD.out.weaken (fun k hk => by
        have h1 := HU9.out.size
        have h2 := HZ7.out
        rcases hk with hk | hk
        · exact .inl (by have := HBF.out k hk; omega)
        · exact .inr hk))
      have HFM := Lib.hid (rform_x o _ w9 (HASC.out _ H9.out) ⟨oa, oc, rfl, HKF.out.weaken (fun k hk => hk.elim (fun h => h.2.2) (fun h => Nat.lt_of_lt_of_le (HRR.out k h) H9.out.size))⟩ (by have := HOS.out; omega))
      dsimp only [tV] at HFM
      obtain ⟨FO, hFO⟩ : ∃ b, wf nmB o = b := ⟨_, rfl⟩
      rw [hFO] at HFM
      have HF4 : Hid (F = if FO = true then (o, 0) else (nulT, 4)) := Lib.hid (by rw [HF.out, hFO])
      clear hFO HF HKD H7 HB67 HU9 HP8
      have k0 := cellRow HBX.out 0 (.string o.name) rfl
      have k1 := cellRow HBX.out 1 (.string o.sort) rfl
      have k2 := cellRow HBX.out 2 (.slice oa o.kids.length oc) rfl
      go_wp2_with fail
      refine HFM.out.mono ?_
      rintro e wa ⟨rfl, hwa⟩
      have Ha := Lib.hid (H9.out.trans hwa)
      have HB6a := Lib.hid (hwa.heap HB69.out (fun h => h))
      have HBXa := Lib.hid (hwa.heap HBX.out (fun h => h))
      have HKFa := Lib.hid (HKF.out.ext hwa)
      have HSA := Lib.hid hwa.size
      clear hwa k0 k1 k2 HFM HB69 HBX H9
      cases FO
      · have HV : Hid (F = (nulT, 4)) := Lib.hid (by rw [HF4.out, if_neg (by simp)])
        have f2 := fun i => frozenRow HB6a.out i
        have d0 := cellRow HB6a.out 0 (.string ⟨#[]⟩) rfl
        have d1 := cellRow HB6a.out 1 (.string ⟨#[]⟩) rfl
        have d2 := cellRow HB6a.out 2 (.slice none 0 0) rfl
        go_wp2_with fail
        have hr := st3_heap HB6a.out (.string ⟨#[]⟩) (.string ⟨#[]⟩) (.slice none 0 0)
        have hu := st3_upd' wa (w.heap.size + 2) (.string ⟨#[]⟩) (.string ⟨#[]⟩) (.slice none 0 0)
        have e0 := cellRow hr 0 (.string ⟨#[]⟩) rfl
        have e1 := cellRow hr 1 (.string ⟨#[]⟩) rfl
        have e2 := cellRow hr 2 (.slice none 0 0) rfl
        refine bodyPost_ret (v := .tuple #[.agg #[.string ⟨#[]⟩, .string ⟨#[]⟩, .slice none 0 0], .int .i64 4]) (by simp [results, Tryz.results96, go_sem, e0, e1, e2]) rfl ⟨.slice none 0 0, by rw [HV.out]; rfl, by rw [HV.out]; exact TlR.nil _ _, Ha.out.trans' hu (fun j hj e => by omega)⟩
      · have HV : Hid (F = (o, 0)) := Lib.hid (by rw [HF4.out, if_pos rfl])
        have k0 := cellRow HBXa.out 0 (.string o.name) rfl
        have k1 := cellRow HBXa.out 1 (.string o.sort) rfl
        have k2 := cellRow HBXa.out 2 (.slice oa o.kids.length oc) rfl
        have f2 := fun i => frozenRow HB6a.out i
        have d0 := cellRow HB6a.out 0 (.string ⟨#[]⟩) rfl
        have d1 := cellRow HB6a.out 1 (.string ⟨#[]⟩) rfl
        have d2 := cellRow HB6a.out 2 (.slice none 0 0) rfl
        go_wp2_with fail
        have hr := st3_heap HB6a.out (.string o.name) (.string o.sort) (.slice oa o.kids.length oc)
        have hu := st3_upd' wa (w.heap.size + 2) (.string o.name) (.string o.sort) (.slice oa o.kids.length oc)
        have e0 := cellRow hr 0 (.string o.name) rfl
        have e1 := cellRow hr 1 (.string o.sort) rfl
        have e2 := cellRow hr 2 (.slice oa o.kids.length oc) rfl
        refine bodyPost_ret (v := .tuple #[.agg #[.string o.name, .string o.sort, .slice oa o.kids.length oc], .int .i64 0]) (by simp [results, Tryz.results96, go_sem, e0, e1, e2]) rfl ⟨.slice oa o.kids.length oc, by rw [HV.out], ?_, Ha.out.trans' hu (fun j hj e => by omega)⟩
        rw [HV.out]
        exact (HKFa.out.kept hu (fun k hk e => hk.elim (fun h => h.1 e) (fun h => by have := HRR.out k h; omega))).weaken (fun k hk => hk.elim (fun h => .inl ⟨h.2.1, Nat.lt_of_lt_of_le h.2.2 (Nat.le_trans HSA.out hu.size)⟩) .inr)

end Go.Proofs.YtiimccogojkldaaGreatDoor

/- Index and Contains of fields. -/
namespace Go.Proofs.YtiimccogojkldaaGreatDoor
open Go.RowKit Go.Hw Go
set_option linter.unusedVariables false
set_option linter.unusedSimpArgs false

open Tm
theorem eqV (a b c d : By) (w : World) : (Op.equalIn 10000 131 (.agg #[.string a, .string b]) (.agg #[.string c, .string d])).run Tryz.prog w = .ok (decide ((a, b) = (c, d))) w := by
  have u9 := Tryz.underlying9
  have hS : Tryz.prog.underlying 131 = some (.struct (Tryz.prog.fieldsOf 131)) := by kernel_rfl
  have hp : Tryz.prog.stoodInHeld 131 = false := by kernel_rfl
  rw [show (10000 : Nat) = 9999 + 1 from rfl, run_equalIn_agg w 9999 131 _ _ hS hp]
  simp only [Program.fieldsOf, Tryz.underlying131]
  go_simp
  have tl : ∀ x y : By, x.toList = y.toList ↔ x = y := fun x y => ⟨fun e => ba_list (by rw [Lib.toList_data, Lib.toList_data] at e; exact e), fun e => by rw [e]⟩
  by_cases h1 : a = c <;> by_cases h2 : b = d <;> simp [h1, h2, tl]
def inV (f : Vd) (l : List Vd) : Bool := l.any fun g => decide (g = f)
theorem inV_iff {f : Vd} {l : List Vd} : inV f l = true ↔ f ∈ l := by
  unfold inV
  rw [List.any_eq_true]
  exact ⟨fun ⟨x, h1, h2⟩ => by rw [← of_decide_eq_true h2]; exact h1, fun h => ⟨f, h, decide_eq_true rfl⟩⟩
theorem inV_no {f : Vd} {l : List Vd} (h : f ∉ l) : inV f l = false := by
  cases e : inV f l
  · rfl
  · exact absurd (inV_iff.1 e) h
set_option maxRecDepth 100000 in
set_option maxHeartbeats 2000000 in
theorem idxV_x (l : List Vd) (f : Vd) (v : Value) (S : Nat → Prop) (w : World) (hR : FiR S w v l) (hl : l.length ≤ 1000000) :
    Calls Tryz.prog 133 #[v, .agg #[.string f.1, .string f.2]] w fun e w' => ∃ r : Int, e = .returned (.int .i64 r) ∧ decide (0 ≤ r) = inV f l ∧ Ext w w' := by
  obtain ⟨a, cap, rfl⟩ := hR.shape
  have HR := Lib.hid hR
  have HL := Lib.hid hl
  have HE0 := Lib.hid ((Upd.refl (fun _ => False) w).alloc (.cells #[.string f.1, .string f.2] 131))
  have HB0 := Lib.hid (alloc0 w (.cells #[.string f.1, .string f.2] 131))
  have c0 := cellRow HB0.out 0 (.string f.1) rfl
  have c1 := cellRow HB0.out 1 (.string f.2) rfl
  have HEQ := Lib.hid (fun a b W => eqV f.1 f.2 a b W)
  clear hR hl
  go_enter Tryz.func133, Tryz.ntmps133
  go_wp2_with fail
  clear c0 c1
  generalize w.alloc (.cells #[.string f.1, .string f.2] 131) = w2 at *
  go_loopg [8] l.length (fun gk iv wr => ∃ k : Nat, iv = .int .i64 (k : Int) ∧ gk = l.length - k ∧ k ≤ l.length ∧ Hid (Ext w2 wr) ∧ Hid (f ∉ l.take k))
  case atStart => exact ⟨0, rfl, rfl, Nat.zero_le _, Lib.hid (Upd.refl _ _), Lib.hid (by simp)⟩
  case round =>
    obtain ⟨k, rfl, rfl, hk, HE, HM⟩ := hrel
    have HBr := Lib.hid (HE.out.heap HB0.out (fun h => h))
    by_cases hlt : k < l.length
    · obtain ⟨g, off, hga, hat⟩ := ((HR.out.ext HE0.out).ext HE.out).at_ (by omega)
      subst hga
      obtain ⟨q0, q1⟩ := hat k hlt
      have c0 := cellRow HBr.out 0 (.string f.1) rfl
      have c1 := cellRow HBr.out 1 (.string f.2) rfl
      have z0 : (0 : Int) ≤ (k : Int) := by omega
      have z1 : (k : Int) < (l.length : Int) := by omega
      have z2 : decide ((k : Int) < (l.length : Int)) = true := decide_eq_true z1
      have z2' : decide (k < l.length) = true := decide_eq_true hlt
      have hmem : vg l k ∈ l := by unfold vg; rw [List.getD_eq_getElem?_getD, List.getElem?_eq_getElem hlt]; exact List.getElem_mem hlt
      have HN : Hid (f ≠ vg l k → f ∉ l.take (k + 1)) := Lib.hid (fun h => by
        rw [List.take_add_one, List.mem_append]
        rintro (h1 | h1)
        · exact HM.out h1
        · apply h
          unfold vg
          rw [List.getElem?_eq_getElem hlt] at h1
          rw [List.getD_eq_getElem?_getD, List.getElem?_eq_getElem hlt]
          simpa using h1)
      have HY : Hid (f = vg l k → inV f l = true) := Lib.hid (fun h => by rw [h]; exact inV_iff.2 hmem)
      have heq := fun W => HEQ.out (vg l k).1 (vg l k).2 W
      have hlL := HL.out
      obtain ⟨x, hx⟩ : ∃ x, vg l k = x := ⟨_, rfl⟩
      rw [hx] at q0 q1 HN HY heq
      have h3 : decide ((f.1, f.2) = (x.1, x.2)) = decide (f = x) := rfl
      rw [h3] at heq
      clear hat hmem hx HM h3
      by_cases hfx : f = x
      · rw [decide_eq_true hfx] at heq
        have HY2 := Lib.hid (HY.out hfx)
        clear HY HN hfx
        go_wp2_with fail
        go_quiet (fail)
        go_wp2_with fail
        all_goals go_ret
        all_goals exact ⟨_, rfl, by rw [HY2.out]; exact decide_eq_true z0, HE0.out.trans (by first | exact HE.out | exact HE.out.drewN' _)⟩
      · rw [decide_eq_false hfx] at heq
        have HN2 := Lib.hid (HN.out hfx)
        clear HY HN hfx
        go_wp2_with fail
        go_quiet (fail)
        go_wp2_with fail
        go_roundg (l.length - (k + 1))
        case measure => omega
        case rel => exact ⟨k + 1, by go_num, rfl, by omega, Lib.hid (by first | exact HE.out | exact HE.out.drewN' _), HN2⟩
    · obtain rfl : k = l.length := by omega
      have z2 : decide ((l.length : Int) < (l.length : Int)) = false := decide_eq_false (by omega)
      have HM2 : Hid (inV f l = false) := Lib.hid (inV_no (by have := HM.out; rw [List.take_length] at this; exact this))
      clear HM
      go_wp2_with fail
      go_ret
      exact ⟨_, rfl, by rw [HM2.out]; rfl, HE0.out.trans HE.out⟩
set_option maxRecDepth 100000 in
set_option maxHeartbeats 2000000 in
theorem conV_x (l : List Vd) (f : Vd) (v : Value) (S : Nat → Prop) (w : World) (hR : FiR S w v l) (hl : l.length ≤ 1000000) :
    Calls Tryz.prog 117 #[v, .agg #[.string f.1, .string f.2]] w fun e w' => e = .returned (.bool (inV f l)) ∧ Ext w w' := by
  have HI := Lib.hid (fun W (hW : Ext w W) => idxV_x l f v S W (hR.ext hW) hl)
  obtain ⟨a, cap, rfl⟩ := hR.shape
  have HE0 := Lib.hid ((Upd.refl (fun _ => False) w).alloc (.cells #[.string f.1, .string f.2] 131))
  have hb := alloc0 w (.cells #[.string f.1, .string f.2] 131)
  have c0 := cellRow hb 0 (.string f.1) rfl
  have c1 := cellRow hb 1 (.string f.2) rfl
  clear hR hl hb
  go_enter Tryz.func117, Tryz.ntmps117
  go_wp2_with fail
  refine (HI.out _ HE0.out).mono ?_
  rintro e w4 ⟨r, rfl, hr, hw4⟩
  have H4 := Lib.hid (HE0.out.trans hw4)
  have HRR := Lib.hid hr
  clear hw4 hr c0 c1
  go_wp2_with fail
  go_ret
  rw [← HRR.out]
  exact ⟨rfl, H4.out⟩

end Go.Proofs.YtiimccogojkldaaGreatDoor

/- ContainsFunc of fields. -/
namespace Go.Proofs.YtiimccogojkldaaGreatDoor
open Go.RowKit Go.Hw Go
set_option linter.unusedVariables false
set_option linter.unusedSimpArgs false

open Tm
set_option maxRecDepth 100000 in
set_option maxHeartbeats 2000000 in
theorem clo_x (l : List Vd) (f : Vd) (lv : Value) (S : Nat → Prop) (bb : Nat) (w : World) (hR : FiR S w lv l) (hc : w.cell? ⟨bb, 0, none⟩ = some lv) (hl : l.length ≤ 1000000) :
    Calls Tryz.prog 116 #[.agg #[.string f.1, .string f.2], .pointer (some ⟨bb, 0, none⟩)] w fun e w' => e = .returned (.bool (!inV f l)) ∧ Ext w w' := by
  have HI := Lib.hid (fun W (hW : Ext w W) => conV_x l f lv S W (hR.ext hW) hl)
  obtain ⟨a, cap, rfl⟩ := hR.shape
  have HE0 := Lib.hid ((Upd.refl (fun _ => False) w).alloc (.cells #[.string f.1, .string f.2] 131))
  have hb := alloc0 w (.cells #[.string f.1, .string f.2] 131)
  have c0 := cellRow hb 0 (.string f.1) rfl
  have c1 := cellRow hb 1 (.string f.2) rfl
  have d0 := HE0.out.cell hc (fun h => h)
  obtain ⟨B, hB⟩ : ∃ B, inV f l = B := ⟨_, rfl⟩
  rw [hB] at HI ⊢
  clear hR hl hb hc hB
  go_enter Tryz.func116, Tryz.ntmps116
  go_wp2_with fail
  refine (HI.out _ HE0.out).mono ?_
  rintro e w4 ⟨rfl, hw4⟩
  have H4 := Lib.hid (HE0.out.trans hw4)
  clear hw4 c0 c1 d0
  go_wp2_with fail
  go_ret
  exact ⟨rfl, H4.out⟩
set_option maxRecDepth 100000 in
set_option maxHeartbeats 2000000 in
theorem idxW_x (l m : List Vd) (lv v : Value) (S T : Nat → Prop) (bb : Nat) (w : World) (hL : FiR S w lv l) (hc : w.cell? ⟨bb, 0, none⟩ = some lv) (hR : FiR T w v m) (hl : l.length ≤ 1000000) (hm : m.length ≤ 1000000) :
    Calls Tryz.prog 132 #[v, .func (.func 116) #[] #[.pointer (some ⟨bb, 0, none⟩)]] w fun e w' => ∃ r : Int, e = .returned (.int .i64 r) ∧ decide (0 ≤ r) = (m.any fun f => !inV f l) ∧ Ext w w' := by
  obtain ⟨a, cap, rfl⟩ := hR.shape
  have HR := Lib.hid hR
  have HM0 := Lib.hid hm
  have HF := Lib.hid (fun f W (hW : Ext w W) => clo_x l f lv S bb W (hL.ext hW) (hW.cell hc (fun h => h)) hl)
  obtain ⟨p, hp⟩ : ∃ p : Vd → Bool, (fun f => !inV f l) = p := ⟨_, rfl⟩
  have hpf : ∀ f, (!inV f l) = p f := fun f => by rw [← hp]
  have HF : Hid (∀ f W, Ext w W → Calls Tryz.prog 116 #[.agg #[.string f.1, .string f.2], .pointer (some ⟨bb, 0, none⟩)] W fun e w' => e = .returned (.bool (p f)) ∧ Ext W w') := Lib.hid (fun f W hW => by rw [← hpf f]; exact HF.out f W hW)
  rw [hp]
  clear hR hL hc hl hm hp hpf
  go_enter Tryz.func132, Tryz.ntmps132
  go_wp2_with fail
  go_loopg [8] m.length (fun gk iv wr => ∃ k : Nat, iv = .int .i64 (k : Int) ∧ gk = m.length - k ∧ k ≤ m.length ∧ Hid (Ext w wr) ∧ Hid ((m.take k).any p = false))
  case atStart => exact ⟨0, rfl, rfl, Nat.zero_le _, Lib.hid (Upd.refl _ _), Lib.hid rfl⟩
  case round =>
    obtain ⟨k, rfl, rfl, hk, HE, HM⟩ := hrel
    by_cases hlt : k < m.length
    · obtain ⟨g, off, hga, hat⟩ := (HR.out.ext HE.out).at_ (by omega)
      subst hga
      obtain ⟨q0, q1⟩ := hat k hlt
      have z0 : (0 : Int) ≤ (k : Int) := by omega
      have z1 : (k : Int) < (m.length : Int) := by omega
      have z2 : decide ((k : Int) < (m.length : Int)) = true := decide_eq_true z1
      have z2' : decide (k < m.length) = true := decide_eq_true hlt
      have hmem : vg m k ∈ m := by unfold vg; rw [List.getD_eq_getElem?_getD, List.getElem?_eq_getElem hlt]; exact List.getElem_mem hlt
      have hsn : m.take (k + 1) = m.take k ++ [vg m k] := by
        rw [List.take_add_one]
        unfold vg
        rw [List.getD_eq_getElem?_getD, List.getElem?_eq_getElem hlt]
        rfl
      have HN : Hid (p (vg m k) = false → (m.take (k + 1)).any p = false) := Lib.hid (fun h => by
        rw [hsn, List.any_append, HM.out, List.any_cons, List.any_nil, h]
        rfl)
      have HY : Hid (p (vg m k) = true → m.any p = true) := Lib.hid (fun h => List.any_eq_true.2 ⟨_, hmem, h⟩)
      have HFX := Lib.hid (HF.out (vg m k) wr HE.out)
      have hlM := HM0.out
      obtain ⟨x, hx⟩ : ∃ x, vg m k = x := ⟨_, rfl⟩
      rw [hx] at q0 q1 HN HY HFX
      obtain ⟨b, hb⟩ : ∃ b, p x = b := ⟨_, rfl⟩
      rw [hb] at HN HY HFX
      clear hat hmem hx HM hsn hb
      go_wp2_with fail
      refine HFX.out.mono ?_
      rintro e w4 ⟨rfl, hw4⟩
      have H4 := Lib.hid (HE.out.trans hw4)
      clear hw4 q0 q1 HFX HE
      cases b
      · have HN2 := Lib.hid (HN.out rfl)
        clear HN HY
        go_wp2_with fail
        go_roundg (m.length - (k + 1))
        case measure => omega
        case rel => exact ⟨k + 1, by go_num, rfl, by omega, H4, HN2⟩
      · have HY2 := Lib.hid (HY.out rfl)
        clear HN HY
        go_wp2_with fail
        go_ret
        exact ⟨_, rfl, by rw [HY2.out]; exact decide_eq_true z0, H4.out⟩
    · obtain rfl : k = m.length := by omega
      have z2 : decide ((m.length : Int) < (m.length : Int)) = false := decide_eq_false (by omega)
      have HM2 : Hid (m.any p = false) := Lib.hid (by have := HM.out; rw [List.take_length] at this; exact this)
      clear HM
      go_wp2_with fail
      go_ret
      exact ⟨_, rfl, by rw [HM2.out]; rfl, HE.out⟩
set_option maxRecDepth 100000 in
set_option maxHeartbeats 2000000 in
theorem conW_x (l m : List Vd) (lv v : Value) (S T : Nat → Prop) (bb : Nat) (w : World) (hL : FiR S w lv l) (hc : w.cell? ⟨bb, 0, none⟩ = some lv) (hR : FiR T w v m) (hl : l.length ≤ 1000000) (hm : m.length ≤ 1000000) :
    Calls Tryz.prog 115 #[v, .func (.func 116) #[] #[.pointer (some ⟨bb, 0, none⟩)]] w fun e w' => e = .returned (.bool (m.any fun f => !inV f l)) ∧ Ext w w' := by
  have HI := Lib.hid (idxW_x l m lv v S T bb w hL hc hR hl hm)
  obtain ⟨B, hB⟩ : ∃ B, (m.any fun f => !inV f l) = B := ⟨_, rfl⟩
  rw [hB] at HI ⊢
  clear hL hc hR hl hm hB
  go_enter Tryz.func115, Tryz.ntmps115
  go_wp2_with fail
  refine HI.out.mono ?_
  rintro e w4 ⟨r, rfl, hr, hw4⟩
  have H4 := Lib.hid hw4
  have HRR := Lib.hid hr
  clear hw4 hr
  go_wp2_with fail
  go_ret
  rw [← HRR.out]
  exact ⟨rfl, H4.out⟩

end Go.Proofs.YtiimccogojkldaaGreatDoor

/- rightRule, right. -/
namespace Go.Proofs.YtiimccogojkldaaGreatDoor
open Go.RowKit Go.Hw Go
set_option linter.unusedVariables false
set_option linter.unusedSimpArgs false

open Tm
/-- a rule that is well-formed -/
def rrF (r : Rl) : Bool := wf nmB r.1 && wf nmB r.2 && decide (r.1.sort = nul) && !((varsF r.2).1.any fun f => !inV f (varsF r.1).1)
theorem varsF_len (t : Tm) : (varsF t).1.length ≤ t.size := by
  unfold varsF
  split
  · have h1 := vFold_len (vl (sbts t)) []
    have h2 := vl_len t
    simp only [List.length_nil] at h1
    show (vFold [] (vl (sbts t))).1.length ≤ _
    omega
  · simp
set_option maxRecDepth 100000 in
set_option maxHeartbeats 2000000 in
theorem rrule_x (x y : Tm) (xa ya : Option Addr) (xc yc : Nat) (w : World) (hx : TlR (fun k => k < w.heap.size) w x.kids (.slice xa x.kids.length xc)) (hy : TlR (fun k => k < w.heap.size) w y.kids (.slice ya y.kids.length yc)) (htab : AscT w) (hsx : x.size ≤ 100000) (hsy : y.size ≤ 100000) :
    Calls Tryz.prog 94 #[.agg #[.string x.name, .string x.sort, .slice xa x.kids.length xc, .string y.name, .string y.sort, .slice ya y.kids.length yc]] w fun e w' => e = .returned (.bool (rrF (x, y))) ∧ Ext w w' := by
  have HX := Lib.hid (fun W (hW : Ext w W) => rform_x x _ W (asc_ext htab hW) ⟨xa, xc, rfl, (hx.ext hW).weaken (fun k hk => Nat.lt_of_lt_of_le hk hW.size)⟩ (by omega))
  have HY := Lib.hid (fun W (hW : Ext w W) => rform_x y _ W (asc_ext htab hW) ⟨ya, yc, rfl, (hy.ext hW).weaken (fun k hk => Nat.lt_of_lt_of_le hk hW.size)⟩ (by omega))
  have HVX := Lib.hid (fun W (hW : Ext w W) => tvars_x x _ W (asc_ext htab hW) ⟨xa, xc, rfl, (hx.ext hW).weaken (fun k hk => Nat.lt_of_lt_of_le hk hW.size)⟩ (by omega))
  have HVY := Lib.hid (fun W (hW : Ext w W) => tvars_x y _ W (asc_ext htab hW) ⟨ya, yc, rfl, (hy.ext hW).weaken (fun k hk => Nat.lt_of_lt_of_le hk hW.size)⟩ (by omega))
  have HLX : Hid ((varsF x).1.length ≤ 1000000) := Lib.hid (by have := varsF_len x; omega)
  have HLY : Hid ((varsF y).1.length ≤ 1000000) := Lib.hid (by have := varsF_len y; omega)
  have HZ : Hid (Ext w (w.alloc (.cells #[.string x.name, .string x.sort, .slice xa x.kids.length xc, .string y.name, .string y.sort, .slice ya y.kids.length yc] 38))) := Lib.hid ((Upd.refl (fun _ => False) w).alloc _)
  have HB := Lib.hid (alloc0 w (.cells #[.string x.name, .string x.sort, .slice xa x.kids.length xc, .string y.name, .string y.sort, .slice ya y.kids.length yc] 38))
  unfold rrF
  dsimp only [tV] at HX HY HVX HVY ⊢
  obtain ⟨A, hA⟩ : ∃ b, wf nmB x = b := ⟨_, rfl⟩
  obtain ⟨B, hB⟩ : ∃ b, wf nmB y = b := ⟨_, rfl⟩
  obtain ⟨VX, hVX⟩ : ∃ b, varsF x = b := ⟨_, rfl⟩
  obtain ⟨VY, hVY⟩ : ∃ b, varsF y = b := ⟨_, rfl⟩
  rw [hA] at HX ⊢
  rw [hB] at HY ⊢
  rw [hVX] at HVX HLX ⊢
  rw [hVY] at HVY HLY ⊢
  obtain ⟨R, hR⟩ : ∃ b, (A && B && decide (x.sort = nul) && !(VY.1.any fun f => !inV f VX.1)) = b := ⟨_, rfl⟩
  rw [hR]
  have HR := Lib.hid hR
  have q0 := cellRow HB.out 0 (.string x.name) rfl
  have q1 := cellRow HB.out 1 (.string x.sort) rfl
  have q2 := cellRow HB.out 2 (.slice xa x.kids.length xc) rfl
  have q3 := cellRow HB.out 3 (.string y.name) rfl
  have q4 := cellRow HB.out 4 (.string y.sort) rfl
  have q5 := cellRow HB.out 5 (.slice ya y.kids.length yc) rfl
  clear hA hB hVX hVY hR hx hy htab hsx hsy
  go_enter Tryz.func94, Tryz.ntmps94
  go_wp2_with fail
  refine (HX.out _ HZ.out).mono ?_
  rintro e w4 ⟨rfl, hw4⟩
  have H4 := Lib.hid (HZ.out.trans hw4)
  have HB4 := Lib.hid (hw4.heap HB.out (fun h => h))
  clear hw4 q0 q1 q2 q3 q4 q5 HX HB
  have q0 := cellRow HB4.out 0 (.string x.name) rfl
  have q1 := cellRow HB4.out 1 (.string x.sort) rfl
  have q2 := cellRow HB4.out 2 (.slice xa x.kids.length xc) rfl
  have q3 := cellRow HB4.out 3 (.string y.name) rfl
  have q4 := cellRow HB4.out 4 (.string y.sort) rfl
  have q5 := cellRow HB4.out 5 (.slice ya y.kids.length yc) rfl
  cases A
  · go_wp2_with fail
    all_goals go_ret
    all_goals (first | exact ⟨by rw [← HR.out]; rfl, H4.out⟩ | exact ⟨by rw [← HR.out]; simp, H4.out⟩)
  · go_wp2_with fail
    refine (HY.out _ H4.out).mono ?_
    rintro e w5 ⟨rfl, hw5⟩
    have H5 := Lib.hid (H4.out.trans hw5)
    have HB5 := Lib.hid (hw5.heap HB4.out (fun h => h))
    clear hw5 q0 q1 q2 q3 q4 q5 HY HB4
    have q0 := cellRow HB5.out 0 (.string x.name) rfl
    have q1 := cellRow HB5.out 1 (.string x.sort) rfl
    have q2 := cellRow HB5.out 2 (.slice xa x.kids.length xc) rfl
    have q3 := cellRow HB5.out 3 (.string y.name) rfl
    have q4 := cellRow HB5.out 4 (.string y.sort) rfl
    have q5 := cellRow HB5.out 5 (.slice ya y.kids.length yc) rfl
    cases B
    · go_wp2_with fail
      all_goals go_ret
      all_goals (first | exact ⟨by rw [← HR.out]; rfl, H5.out⟩ | exact ⟨by rw [← HR.out]; simp, H5.out⟩)
    · by_cases hs0 : x.sort.size = 0
      · have hse := empty_is _ hs0
        have hse2 : decide (x.sort = nul) = true := decide_eq_true hse
        have HR2 : Hid ((!(VY.1.any fun f => !inV f VX.1)) = R) := Lib.hid (by rw [← HR.out, hse2]; simp)
        rw [hse] at q1
        rw [hse] at HVX HB5
        clear HR hse2
        go_wp2_with fail
        refine (HVX.out _ H5.out).mono ?_
        rintro e w6 ⟨r6, rfl, hF6, hw6⟩
        obtain ⟨fa, fc, rfl⟩ := FiR.shape hF6
        have hQ := (Upd.refl (fun _ => False) w6).alloc (.cells #[.slice fa VX.1.length fc] 66)
        have H7 := Lib.hid ((H5.out.trans hw6).trans hQ)
        have HB7 := Lib.hid ((hw6.trans hQ).heap HB5.out (fun h => h))
        have HF7 := Lib.hid (hF6.ext hQ)
        have HC7 := Lib.hid (alloc0 w6 (.cells #[.slice fa VX.1.length fc] 66))
        clear q0 q1 q2 q3 q4 q5 HVX HB5 hF6 hw6 hQ
        obtain ⟨n6, hn6⟩ : ∃ n, w6.heap.size = n := ⟨_, rfl⟩
        rw [hn6] at HC7
        have q0 := cellRow HB7.out 0 (.string x.name) rfl
        have q1 := cellRow HB7.out 1 (.string ⟨#[]⟩) rfl
        have q2 := cellRow HB7.out 2 (.slice xa x.kids.length xc) rfl
        have q3 := cellRow HB7.out 3 (.string y.name) rfl
        have q4 := cellRow HB7.out 4 (.string y.sort) rfl
        have q5 := cellRow HB7.out 5 (.slice ya y.kids.length yc) rfl
        go_wp2_with fail
        try rw [hn6]
        clear hn6
        generalize w6.alloc (.cells #[.slice fa VX.1.length fc] 66) = w7 at *
        refine (HVY.out _ H7.out).mono ?_
        rintro e w8 ⟨r8, rfl, hF8, hw8⟩
        obtain ⟨ga, gc, rfl⟩ := FiR.shape hF8
        have H8 := Lib.hid (H7.out.trans hw8)
        have HCN := Lib.hid (conW_x VX.1 VY.1 (.slice fa VX.1.length fc) (.slice ga VY.1.length gc) _ _ n6 w8 (HF7.out.ext hw8) (cellRow (hw8.heap HC7.out (fun h => h)) 0 _ rfl) hF8 HLX.out HLY.out)
        obtain ⟨Z, hZ⟩ : ∃ Z, (VY.1.any fun f => !inV f VX.1) = Z := ⟨_, rfl⟩
        rw [hZ] at HCN HR2
        clear q0 q1 q2 q3 q4 q5 HVY HB7 hF8 hw8 hZ
        go_wp2_with fail
        refine HCN.out.mono ?_
        rintro e w9 ⟨rfl, hw9⟩
        have H9 := Lib.hid (H8.out.trans hw9)
        clear hw9 HCN
        go_wp2_with fail
        go_ret
        exact ⟨by rw [← HR2.out]; rfl, H9.out⟩
      · have hne : x.sort ≠ nul := fun e => hs0 (by rw [e]; rfl)
        obtain ⟨e1, e2, e3, e4⟩ := nonempty_t x.sort (Nat.pos_of_ne_zero hs0)
        have hne2 : decide (x.sort = nul) = false := decide_eq_false hne
        have HR2 : Hid (R = false) := Lib.hid (by rw [← HR.out, hne2]; simp)
        clear HR hne2 hne hs0
        go_wp2_with fail
        all_goals go_ret
        all_goals (rw [HR2.out]; exact ⟨rfl, H5.out⟩)
set_option maxRecDepth 100000 in
set_option maxHeartbeats 2000000 in
theorem rclo93_x (x y : Tm) (xa ya : Option Addr) (xc yc : Nat) (w : World) (hx : TlR (fun k => k < w.heap.size) w x.kids (.slice xa x.kids.length xc)) (hy : TlR (fun k => k < w.heap.size) w y.kids (.slice ya y.kids.length yc)) (htab : AscT w) (hsx : x.size ≤ 100000) (hsy : y.size ≤ 100000) :
    Calls Tryz.prog 93 #[.agg #[.string x.name, .string x.sort, .slice xa x.kids.length xc, .string y.name, .string y.sort, .slice ya y.kids.length yc]] w fun e w' => e = .returned (.bool (!rrF (x, y))) ∧ Ext w w' := by
  have HX := Lib.hid (fun W (hW : Ext w W) => rrule_x x y xa ya xc yc W ((hx.ext hW).weaken (fun k hk => Nat.lt_of_lt_of_le hk hW.size)) ((hy.ext hW).weaken (fun k hk => Nat.lt_of_lt_of_le hk hW.size)) (asc_ext htab hW) hsx hsy)
  have HZ : Hid (Ext w (w.alloc (.cells #[.string x.name, .string x.sort, .slice xa x.kids.length xc, .string y.name, .string y.sort, .slice ya y.kids.length yc] 38))) := Lib.hid ((Upd.refl (fun _ => False) w).alloc _)
  have HB := Lib.hid (alloc0 w (.cells #[.string x.name, .string x.sort, .slice xa x.kids.length xc, .string y.name, .string y.sort, .slice ya y.kids.length yc] 38))
  obtain ⟨R, hR⟩ : ∃ b, rrF (x, y) = b := ⟨_, rfl⟩
  rw [hR] at HX ⊢
  have q0 := cellRow HB.out 0 (.string x.name) rfl
  have q1 := cellRow HB.out 1 (.string x.sort) rfl
  have q2 := cellRow HB.out 2 (.slice xa x.kids.length xc) rfl
  have q3 := cellRow HB.out 3 (.string y.name) rfl
  have q4 := cellRow HB.out 4 (.string y.sort) rfl
  have q5 := cellRow HB.out 5 (.slice ya y.kids.length yc) rfl
  clear hx hy htab hsx hsy hR
  go_enter Tryz.func93, Tryz.ntmps93
  go_wp2_with fail
  refine (HX.out _ HZ.out).mono ?_
  rintro e w4 ⟨rfl, hw4⟩
  have H4 := Lib.hid (HZ.out.trans hw4)
  clear hw4 q0 q1 q2 q3 q4 q5 HX HB
  go_wp2_with fail
  go_ret
  exact ⟨rfl, H4.out⟩
set_option maxRecDepth 100000 in
set_option maxHeartbeats 2000000 in
theorem idxR93_x (p : Rl → Bool) (J : Nat → World → Prop) (hJ : ∀ k W W', J k W → Ext W W' → J k W') (L : List Rl) (v : Value) (S : Nat → Prop) (w : World) (hw : J 0 w) (hl : L.length ≤ 1000000)
    (hR : ∀ k W, J k W → RuR S W L v) (hf : ∀ k, k < L.length → ∀ xa xc ya yc W, J k W → TlR S W (rg L k).1.kids (.slice xa (rg L k).1.kids.length xc) → TlR S W (rg L k).2.kids (.slice ya (rg L k).2.kids.length yc) → Calls Tryz.prog 93 #[.agg #[.string (rg L k).1.name, .string (rg L k).1.sort, .slice xa (rg L k).1.kids.length xc, .string (rg L k).2.name, .string (rg L k).2.sort, .slice ya (rg L k).2.kids.length yc]] W fun e W' => e = .returned (.bool (p (rg L k))) ∧ J (k + 1) W') :
    Calls Tryz.prog 45 #[v, .func (.func 93) #[] #[]] w fun e w' => e = .returned (.int .i64 (if L.findIdx p < L.length then (L.findIdx p : Int) else -1)) ∧ ∃ k, k ≤ L.length ∧ J k w' := by
  obtain ⟨a, cap, rfl⟩ := (hR 0 w hw).shape
  have HW := Lib.hid hw
  have HR := Lib.hid hR
  have HF := Lib.hid hf
  obtain ⟨X, hX⟩ : ∃ X : Int, (if L.findIdx p < L.length then (L.findIdx p : Int) else -1) = X := ⟨_, rfl⟩
  rw [hX]
  have HX := Lib.hid hX
  clear hw hR hf hJ hX
  go_enter Tryz.func45, Tryz.ntmps45
  go_wp2_with fail
  go_loopg [8] L.length (fun gk iv wr => ∃ k : Nat, iv = .int .i64 (k : Int) ∧ gk = L.length - k ∧ k ≤ L.length ∧ Hid (J k wr) ∧ Hid (∀ j, j < k → p (rg L j) = false))
  case atStart => exact ⟨0, rfl, rfl, Nat.zero_le _, HW, Lib.hid (fun j h => absurd h (Nat.not_lt_zero _))⟩
  case round =>
    obtain ⟨k, rfl, rfl, hk, HK, HM⟩ := hrel
    have hgt : ∀ j, (h : j < L.length) → rg L j = L[j] := fun j h => by unfold rg; rw [List.getD_eq_getElem?_getD, List.getElem?_eq_getElem h]; rfl
    by_cases hlt : k < L.length
    · obtain ⟨g, off, hga, _, hat⟩ := (HR.out k wr HK.out).at_ (by omega)
      subst hga
      obtain ⟨xa, xc, ya, yc, q0, q1, q2, q3, q4, q5, hx, hy⟩ := hat k hlt
      have z0 : (0 : Int) ≤ (k : Int) := by omega
      have z1 : (k : Int) < (L.length : Int) := by omega
      have z2 : decide ((k : Int) < (L.length : Int)) = true := decide_eq_true z1
      have z2' : decide (k < L.length) = true := decide_eq_true hlt
      have HFX := Lib.hid (HF.out k hlt _ _ _ _ wr HK.out hx hy)
      have HN : Hid (p (rg L k) = false → ∀ j, j < k + 1 → p (rg L j) = false) := Lib.hid (fun h j hj => by
        rcases Nat.lt_succ_iff_lt_or_eq.1 hj with h5 | h5
        · exact HM.out j h5
        · rw [h5]; exact h)
      have HY : Hid (p (rg L k) = true → L.findIdx p = k) := Lib.hid (fun h => by
        rcases Nat.lt_trichotomy (L.findIdx p) k with e | e | e
        · have h1 : L.findIdx p < L.length := by omega
          have h2 := List.findIdx_getElem (w := h1)
          rw [← hgt _ h1, HM.out _ e] at h2; cases h2
        · exact e
        · have h2 := List.not_of_lt_findIdx e
          rw [← hgt _ hlt] at h2
          rw [h2] at h; cases h)
      obtain ⟨⟨x, y⟩, hxy⟩ : ∃ r, rg L k = r := ⟨_, rfl⟩
      rw [hxy] at q0 q1 q2 q3 q4 q5 HFX HN HY
      dsimp only at q0 q1 q2 q3 q4 q5 HFX HN HY
      obtain ⟨b, hb⟩ : ∃ b, p (x, y) = b := ⟨_, rfl⟩
      rw [hb] at HFX HN HY
      clear hat hx hy hxy hb HM hgt
      go_wp2_with fail
      refine HFX.out.mono ?_
      rintro e w4 ⟨rfl, hw4⟩
      have H4 := Lib.hid hw4
      clear hw4 q0 q1 q2 q3 q4 q5 HFX HK
      cases b
      · have HN2 := Lib.hid (HN.out rfl)
        clear HN HY
        go_wp2_with fail
        go_roundg (L.length - (k + 1))
        case measure => omega
        case rel => exact ⟨k + 1, by go_num, rfl, by omega, H4, HN2⟩
      · have HY2 := Lib.hid (HY.out rfl)
        clear HN HY
        go_wp2_with fail
        go_ret
        exact ⟨by rw [← HX.out, HY2.out, if_pos hlt]; rfl, k + 1, by omega, H4.out⟩
    · obtain rfl : k = L.length := by omega
      have z2 : decide ((L.length : Int) < (L.length : Int)) = false := decide_eq_false (by omega)
      have HV : Hid (¬ L.findIdx p < L.length) := Lib.hid (fun h => by
        have h2 := List.findIdx_getElem (w := h)
        rw [← hgt _ h, HM.out _ h] at h2; cases h2)
      clear hgt
      go_wp2_with fail
      go_ret
      exact ⟨by rw [← HX.out, if_neg HV.out]; rfl, L.length, Nat.le_refl _, HK.out⟩
set_option maxRecDepth 100000 in
set_option maxHeartbeats 2000000 in
theorem conR93_x (p : Rl → Bool) (J : Nat → World → Prop) (hJ : ∀ k W W', J k W → Ext W W' → J k W') (L : List Rl) (v : Value) (S : Nat → Prop) (w : World) (hw : J 0 w) (hl : L.length ≤ 1000000)
    (hR : ∀ k W, J k W → RuR S W L v) (hf : ∀ k, k < L.length → ∀ xa xc ya yc W, J k W → TlR S W (rg L k).1.kids (.slice xa (rg L k).1.kids.length xc) → TlR S W (rg L k).2.kids (.slice ya (rg L k).2.kids.length yc) → Calls Tryz.prog 93 #[.agg #[.string (rg L k).1.name, .string (rg L k).1.sort, .slice xa (rg L k).1.kids.length xc, .string (rg L k).2.name, .string (rg L k).2.sort, .slice ya (rg L k).2.kids.length yc]] W fun e W' => e = .returned (.bool (p (rg L k))) ∧ J (k + 1) W') :
    Calls Tryz.prog 14 #[v, .func (.func 93) #[] #[]] w fun e w' => e = .returned (.bool (L.any p)) ∧ ∃ k, k ≤ L.length ∧ J k w' := by
  have HI := Lib.hid (idxR93_x  p J hJ L v S w hw hl hR hf)
  have HV : Hid (decide (L.findIdx p < L.length) = L.any p) := Lib.hid (by rw [Bool.eq_iff_iff, decide_eq_true_eq, List.findIdx_lt_length, List.any_eq_true])
  clear hw hR hf hJ
  by_cases h : L.findIdx p < L.length
  · have hv : L.any p = true := by rw [← HV.out]; exact decide_eq_true h
    rw [hv]
    rw [if_pos h] at HI
    have z0 : (0 : Int) ≤ ((L.findIdx p : Nat) : Int) := by omega
    generalize L.findIdx p = X at *
    clear h hv
    go_enter Tryz.func14, Tryz.ntmps14
    go_wp2_with fail
    refine HI.out.mono ?_
    rintro e w4 ⟨rfl, k, hk, hw4⟩
    have H4 := Lib.hid hw4
    clear hw4
    go_wp2_with fail
    go_ret
    exact ⟨by first | rfl | simp, k, hk, H4.out⟩
  · have hv : L.any p = false := by rw [← HV.out]; exact decide_eq_false h
    rw [hv]
    rw [if_neg h] at HI
    clear h hv HV
    go_enter Tryz.func14, Tryz.ntmps14
    go_wp2_with fail
    refine HI.out.mono ?_
    rintro e w4 ⟨rfl, k, hk, hw4⟩
    have H4 := Lib.hid hw4
    clear hw4
    go_wp2_with fail
    go_ret
    exact ⟨by first | rfl | simp, k, hk, H4.out⟩
theorem conrr_x (L : List Rl) (v : Value) (w : World) (hR : RuR (fun k => k < w.heap.size) w L v) (htab : AscT w) (hl : L.length ≤ 1000000) (hs : ∀ r ∈ L, r.1.size ≤ 100000 ∧ r.2.size ≤ 100000) : Calls Tryz.prog 14 #[v, .func (.func 93) #[] #[]] w fun e w' => e = .returned (.bool (L.any fun r => !rrF r)) ∧ Ext w w' :=
  (conR93_x (fun r => !rrF r) (fun _ W => Ext w W) (fun _ _ _ h h2 => h.trans h2) L v (fun k => k < w.heap.size) w (Upd.refl _ _) hl (fun k W h => hR.ext h) (fun k hk xa xc ya yc W h hx hy => (rclo93_x (rg L k).1 (rg L k).2 xa ya xc yc W (hx.weaken (fun j hj => Nat.lt_of_lt_of_le hj h.size)) (hy.weaken (fun j hj => Nat.lt_of_lt_of_le hj h.size)) (asc_ext htab h) (hs _ (rg_mem hk)).1 (hs _ (rg_mem hk)).2).mono fun e W' ⟨h1, h2⟩ => ⟨h1, h.trans h2⟩)).mono fun e w' ⟨h1, k, _, h2⟩ => ⟨h1, h2⟩
/-- rules that are well-formed -/
def rightF (l : List Rl) : Bool := decide (l.length ≤ 100) && !(l.any fun r => !rrF r)
set_option maxRecDepth 100000 in
set_option maxHeartbeats 2000000 in
theorem right_x (L : List Rl) (v : Value) (w : World) (hR : RuR (fun k => k < w.heap.size) w L v) (htab : AscT w) (hl : L.length ≤ 1000000) (hs : ∀ r ∈ L, r.1.size ≤ 100000 ∧ r.2.size ≤ 100000) : Calls Tryz.prog 68 #[v] w fun e w' => e = .returned (.bool (rightF L)) ∧ Ext w w' := by
  have HC := Lib.hid (conrr_x L v w hR htab hl hs)
  obtain ⟨a, c, rfl⟩ := hR.shape
  unfold rightF
  obtain ⟨Z, hZ⟩ : ∃ Z, (L.any fun r => !rrF r) = Z := ⟨_, rfl⟩
  rw [hZ] at HC ⊢
  clear hR htab hl hs hZ
  by_cases h : L.length ≤ 100
  · have y1 : (L.length : Int) ≤ 100 := by omega
    have y1' : decide ((L.length : Int) ≤ 100) = true := decide_eq_true y1
    rw [decide_eq_true h, Bool.true_and]
    clear h
    go_enter Tryz.func68, Tryz.ntmps68
    go_wp2_with fail
    refine HC.out.mono ?_
    rintro e w4 ⟨rfl, hw4⟩
    have H4 := Lib.hid hw4
    clear hw4 HC
    go_wp2_with fail
    go_ret
    exact ⟨rfl, H4.out⟩
  · have y1 : ¬ (L.length : Int) ≤ 100 := by omega
    have y1' : decide ((L.length : Int) ≤ 100) = false := decide_eq_false y1
    rw [decide_eq_false h, Bool.false_and]
    clear h HC
    go_enter Tryz.func68, Tryz.ntmps68
    go_wp2_with fail
    go_ret
    exact ⟨rfl, Upd.refl _ _⟩

end Go.Proofs.YtiimccogojkldaaGreatDoor
