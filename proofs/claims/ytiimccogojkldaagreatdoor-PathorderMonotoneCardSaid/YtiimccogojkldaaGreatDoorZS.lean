/- The texts I80 I81 I82 I83 OG, one behind the other. -/
import Derived.Test.YtiimccogojkldaaGreatDoorZQ
import Derived.Test.YtiimccogojkldaaGreatDoorZD
import Derived.Test.YtiimccogojkldaaGreatDoorZE
import Derived.Test.YtiimccogojkldaaGreatDoorZI
/- find, Find, Own of the reference. -/
namespace Go.Proofs.YtiimccogojkldaaGreatDoor
open Go.RowKit Go.Hw Go
set_option linter.unusedVariables false
set_option linter.unusedSimpArgs false

open Tm
set_option maxRecDepth 100000 in
set_option maxHeartbeats 2000000 in
theorem find_x2 (l : List By) (s : By) (v : Value) (S : Nat → Prop) (w : World) (hR : StR S w v l) (hlc : l.length ≤ 1000000) : Calls Tryz.prog 64 #[v, .string s] w fun e w' => e = .returned (.int .i64 (ixI l s)) ∧ w' = w := by
  have HR := Lib.hid hR
  obtain ⟨a, cap, rfl⟩ := SlR.shape hR
  clear hR
  go_enter Tryz.func64, Tryz.ntmps64
  go_wp2_with fail
  go_loopg [5] l.length (fun gk iv wr => ∃ k : Nat, iv = .int .i64 (k : Int) ∧ gk = l.length - k ∧ k ≤ l.length ∧ Hid (∀ j, j < k → bg l j ≠ s) ∧ wr = w)
  case atStart => exact ⟨0, rfl, rfl, Nat.zero_le _, Lib.hid (fun j h => absurd h (Nat.not_lt_zero _)), rfl⟩
  case round =>
    obtain ⟨k, rfl, rfl, hk, HC, rfl⟩ := hrel
    by_cases hlt : k < l.length
    · obtain ⟨g, off, rfl, _, hat⟩ := StR.at_ HR.out (by omega)
      have q0 := hat k hlt
      have z0 : (0 : Int) ≤ (k : Int) := by omega
      have z1 : (k : Int) < (l.length : Int) := by omega
      have z2 : decide ((k : Int) < (l.length : Int)) = true := decide_eq_true z1
      have z2' : decide (k < l.length) = true := decide_eq_true hlt
      clear hat
      obtain ⟨x, hx⟩ : ∃ x, bg l k = x := ⟨_, rfl⟩
      have HX := Lib.hid hx
      rw [hx] at q0
      clear hx
      by_cases he : x = s
      · subst he
        have HV : Hid (ixI l x = (k : Int)) := Lib.hid (by
          have h1 := ixF_of hlt (fun j hj => HC.out j hj) HX.out
          unfold ixI
          rw [if_pos (mem_ix.2 (by rw [h1]; exact hlt)), h1])
        go_wp2_with fail
        go_ret
        rw [HV.out]
        exact ⟨rfl, rfl⟩
      · have t1 := str_ne he
        have HN : Hid (∀ j, j < k + 1 → bg l j ≠ s) := Lib.hid (fun j hj => by
          rcases Nat.lt_succ_iff_lt_or_eq.1 hj with h5 | h5
          · exact HC.out j h5
          · rw [h5, HX.out]; exact he)
        clear he
        go_wp2_with fail
        go_roundg (l.length - (k + 1))
        case measure => omega
        case rel => exact ⟨k + 1, by go_num, rfl, by omega, HN, rfl⟩
    · obtain rfl : k = l.length := by omega
      have HV : Hid (ixI l s = -1) := Lib.hid (by
        unfold ixI
        rw [if_neg (fun h => by
          have h1 := ixF_lt h
          rw [ixF_none (fun j hj => HC.out j hj)] at h1
          exact Nat.lt_irrefl _ h1)])
      have z2 : decide ((l.length : Int) < (l.length : Int)) = false := decide_eq_false (by omega)
      go_wp2_with fail
      go_ret
      rw [HV.out]
      exact ⟨rfl, rfl⟩
theorem find_e2 (l : List By) (s : By) (v : Value) (S : Nat → Prop) (w : World) (hR : StR S w v l) (hlc : l.length ≤ 1000000) : Calls Tryz.prog 64 #[v, .string s] w fun e w' => e = .returned (.int .i64 (ixI l s)) ∧ Ext w w' := (find_x2 l s v S w hR hlc).mono fun e w' h => ⟨h.1, h.2 ▸ Upd.refl _ _⟩
set_option maxRecDepth 100000 in
set_option maxHeartbeats 2000000 in
theorem dfind_x (g : Sg) (s : By) (v : Value) (S : Nat → Prop) (w : World) (hG : SgR S w g v) (hl : g.2.length ≤ 1000000) : Calls Tryz.prog 65 #[v, .string s] w fun e w' => e = .returned (.int .i64 (dixI g.2 s)) ∧ Ext w w' := by
  obtain ⟨sa, sc, oa, oc, rfl, _, hD⟩ := hG
  have HD := Lib.hid hD
  have HZ := Lib.hid ((Upd.refl (fun _ => False) w).alloc (.cells #[.slice sa g.1.length sc, .slice oa g.2.length oc] 58))
  have HB := Lib.hid (alloc0 w (.cells #[.slice sa g.1.length sc, .slice oa g.2.length oc] 58))
  have c1 := cellRow HB.out 1 (.slice oa g.2.length oc) rfl
  obtain ⟨V, hV⟩ : ∃ V, dixI g.2 s = V := ⟨_, rfl⟩
  rw [hV]
  have HV := Lib.hid hV
  clear hD hV
  go_enter Tryz.func65, Tryz.ntmps65
  go_wp2_with fail
  generalize w.alloc (.cells #[.slice sa g.1.length sc, .slice oa g.2.length oc] 58) = w1 at *
  clear c1
  go_loopg [5] g.2.length (fun gk iv wr => ∃ k : Nat, iv = .int .i64 (k : Int) ∧ gk = g.2.length - k ∧ k ≤ g.2.length ∧ Hid (∀ j, j < k → (dg g.2 j).1 ≠ s) ∧ w1 = wr)
  case atStart => exact ⟨0, rfl, rfl, Nat.zero_le _, Lib.hid (fun j h => absurd h (Nat.not_lt_zero _)), rfl⟩
  case round =>
    obtain ⟨k, rfl, rfl, hk, HC, rfl⟩ := hrel
    have c1 := cellRow HB.out 1 (.slice oa g.2.length oc) rfl
    by_cases hlt : k < g.2.length
    · obtain ⟨gg, off, hga, _, hat⟩ := (HD.out.ext HZ.out).at_ (by omega)
      subst hga
      obtain ⟨xa, xc, q0, q1, q2, _⟩ := hat k hlt
      have z0 : (0 : Int) ≤ (k : Int) := by omega
      have z1 : (k : Int) < (g.2.length : Int) := by omega
      have z2 : decide ((k : Int) < (g.2.length : Int)) = true := decide_eq_true z1
      have z2' : decide (k < g.2.length) = true := decide_eq_true hlt
      clear hat q1 q2
      obtain ⟨x, hx⟩ : ∃ x, (dg g.2 k).1 = x := ⟨_, rfl⟩
      have HX := Lib.hid hx
      rw [hx] at q0
      clear hx
      by_cases he : x = s
      · subst he
        have HV2 : Hid (V = (k : Int)) := Lib.hid (by
          have h1 := dixN_of hlt (fun j hj => HC.out j hj) HX.out
          rw [← HV.out]
          unfold dixI
          rw [h1, if_pos hlt])
        go_wp2_with fail
        go_ret
        rw [HV2.out]
        exact ⟨rfl, HZ.out⟩
      · have t1 := str_ne he
        have HN : Hid (∀ j, j < k + 1 → (dg g.2 j).1 ≠ s) := Lib.hid (fun j hj => by
          rcases Nat.lt_succ_iff_lt_or_eq.1 hj with h5 | h5
          · exact HC.out j h5
          · rw [h5, HX.out]; exact he)
        clear he
        go_wp2_with fail
        go_roundg (g.2.length - (k + 1))
        case measure => omega
        case rel => exact ⟨k + 1, by go_num, rfl, by omega, HN, rfl⟩
    · obtain rfl : k = g.2.length := by omega
      have HV2 : Hid (V = -1) := Lib.hid (by
        rw [← HV.out]
        unfold dixI
        rw [if_neg (dixN_none (fun j hj => HC.out j hj))])
      have z2 : decide ((g.2.length : Int) < (g.2.length : Int)) = false := decide_eq_false (by omega)
      go_wp2_with fail
      go_ret
      rw [HV2.out]
      exact ⟨rfl, HZ.out⟩
set_option maxRecDepth 100000 in
set_option maxHeartbeats 2000000 in
theorem own_x (g : Sg) (t : Tm) (v u : Value) (S T : Nat → Prop) (w : World) (hG : SgR S w g v) (hT : TmR T w t u) (hl : g.2.length ≤ 1000000) : Calls Tryz.prog 91 #[v, u] w fun e w' => e = .returned (.string (ownF g t)) ∧ Ext w w' := by
  have HFD := Lib.hid (fun s W (hW : Ext w W) => dfind_x g s v S W (hG.ext hW) hl)
  obtain ⟨sa, sc, oa, oc, rfl, _, hD⟩ := hG
  obtain ⟨a, cap, rfl, hT⟩ := hT
  obtain ⟨nm, so, L⟩ := t
  dsimp only [tV, Tm.name, Tm.sort, Tm.kids]
  have HD := Lib.hid hD
  have HZ := Lib.hid (((Upd.refl (fun _ => False) w).alloc (.cells #[.slice sa g.1.length sc, .slice oa g.2.length oc] 58)).alloc (.cells #[.string nm, .string so, .slice a L.length cap] 25))
  have HB1 := Lib.hid (allocOld (alloc0 w (.cells #[.slice sa g.1.length sc, .slice oa g.2.length oc] 58)) (.cells #[.string nm, .string so, .slice a L.length cap] 25))
  have HB2 := Lib.hid (alloc_at (w.alloc (.cells #[.slice sa g.1.length sc, .slice oa g.2.length oc] 58)) (.cells #[.string nm, .string so, .slice a L.length cap] 25) (n := w.heap.size + 1) (by simp))
  have c0 := cellRow HB1.out 0 (.slice sa g.1.length sc) rfl
  have c1 := cellRow HB1.out 1 (.slice oa g.2.length oc) rfl
  have t0 := cellRow HB2.out 0 (.string nm) rfl
  have t1 := cellRow HB2.out 1 (.string so) rfl
  have HU : Hid (ownF g (.mk nm so L) = if so ≠ nul then so else if dixN g.2 nm < g.2.length then (dg g.2 (dixN g.2 nm)).2.2 else nul) := Lib.hid rfl
  obtain ⟨V, hV⟩ : ∃ V, ownF g (.mk nm so L) = V := ⟨_, rfl⟩
  rw [hV] at HU ⊢
  clear hD hT hV
  by_cases hs0 : so.size = 0
  · have hse := empty_is _ hs0
    subst hse
    have HU2 : Hid (V = if dixN g.2 nm < g.2.length then (dg g.2 (dixN g.2 nm)).2.2 else nul) := Lib.hid (by rw [HU.out, if_neg (by simp [nul])])
    have HFX := Lib.hid (HFD.out nm)
    clear HU HFD hs0
    by_cases hd : dixN g.2 nm < g.2.length
    · have hdi : dixI g.2 nm = (dixN g.2 nm : Int) := by unfold dixI; rw [if_pos hd]
      have HV2 : Hid (V = (dg g.2 (dixN g.2 nm)).2.2) := Lib.hid (by rw [HU2.out, if_pos hd])
      rw [hdi] at HFX
      obtain ⟨k, hkk⟩ : ∃ k, dixN g.2 nm = k := ⟨_, rfl⟩
      rw [hkk] at hd HV2 HFX
      have z0 : ¬ (k : Int) < 0 := by omega
      have z0' : (0 : Int) ≤ (k : Int) := by omega
      have z1 : (k : Int) < (g.2.length : Int) := by omega
      clear hdi hkk HU2
      go_enter Tryz.func91, Tryz.ntmps91
      go_wp2_with fail
      refine (HFX.out _ HZ.out).mono ?_
      rintro e w4 ⟨rfl, hw4⟩
      have H4 := Lib.hid (HZ.out.trans hw4)
      have HB14 := Lib.hid (hw4.heap HB1.out (fun h => h))
      obtain ⟨gg, off, hga, _, hat⟩ := (HD.out.ext H4.out).at_ (by omega)
      subst hga
      obtain ⟨xa, xc, q0, q1, q2, _⟩ := hat k hd
      clear hw4 c0 c1 t0 t1 HFX hat q0 q1 HB1
      have c1 := cellRow HB14.out 1 (.slice (some ⟨gg, off, none⟩) g.2.length oc) rfl
      obtain ⟨y, hy⟩ : ∃ y, (dg g.2 k).2.2 = y := ⟨_, rfl⟩
      rw [hy] at q2 HV2
      clear hy
      go_wp2_with fail
      go_ret
      rw [HV2.out]
      exact ⟨rfl, H4.out⟩
    · have hdi : dixI g.2 nm = -1 := by unfold dixI; rw [if_neg hd]
      have HV2 : Hid (V = nul) := Lib.hid (by rw [HU2.out, if_neg hd])
      rw [hdi] at HFX
      clear hdi HU2 hd
      go_enter Tryz.func91, Tryz.ntmps91
      go_wp2_with fail
      refine (HFX.out _ HZ.out).mono ?_
      rintro e w4 ⟨rfl, hw4⟩
      have H4 := Lib.hid (HZ.out.trans hw4)
      clear hw4 c0 c1 t0 t1 HFX
      go_wp2_with fail
      go_ret
      rw [HV2.out]
      exact ⟨rfl, H4.out⟩
  · obtain ⟨e1, e2, e3, e4⟩ := nonempty_t so (Nat.pos_of_ne_zero hs0)
    have HV2 : Hid (V = so) := Lib.hid (by
      rw [HU.out, if_pos (fun e => hs0 (by rw [e]; rfl))])
    clear HU
    go_enter Tryz.func91, Tryz.ntmps91
    go_wp2_with fail
    go_ret
    rw [HV2.out]
    exact ⟨rfl, HZ.out⟩

end Go.Proofs.YtiimccogojkldaaGreatDoor

/- wrong of the reference. -/
namespace Go.Proofs.YtiimccogojkldaaGreatDoor
open Go.RowKit Go.Hw Go
set_option linter.unusedVariables false
set_option linter.unusedSimpArgs false

open Tm
set_option maxRecDepth 100000 in
set_option maxHeartbeats 2000000 in
theorem wrong_x (g : Sg) : ∀ (t : Tm) (v u : Value) (S T : Nat → Prop) (w : World), SgR S w g v → TmR T w t u → g.2.length ≤ 1000000 → g.1.length ≤ 1000000 → t.size ≤ 100000 → Calls Tryz.prog 90 #[v, u] w fun e w' => e = .returned (.int .i64 (wrongF g t)) ∧ Ext w w' := by
  refine Tm.ind (fun nm so L ih => ?_)
  intro v u S T w hG hT hgl hsl hsz
  have HG := Lib.hid hG
  have HFD := Lib.hid (fun s W (hW : Ext w W) => dfind_x g s v S W (hG.ext hW) hgl)
  obtain ⟨sa, sc, oa, oc, rfl, hSS, hD⟩ := hG
  obtain ⟨a, cap, rfl, hT⟩ := hT
  dsimp only [tV, Tm.name, Tm.sort, Tm.kids] at hT ⊢
  have HTL := Lib.hid hT
  have HIH := Lib.hid ih
  have HD := Lib.hid hD
  have HFS := Lib.hid (fun W (hW : Ext w W) => find_e2 g.1 so _ S W (SlR.kept hSS hW (fun _ _ h => h)) hsl)
  have HSL : Hid (∀ x ∈ L, x.size ≤ 100000) := Lib.hid (fun x hx => by have h1 := size_kid (t := .mk nm so L) hx; omega)
  have hlL : L.length ≤ 100000 := by have h1 := length_le_sizes L; have h2 := size_eq (.mk nm so L); simp only [Tm.kids] at h2; omega
  have HZ := Lib.hid (((Upd.refl (fun _ => False) w).alloc (.cells #[.slice sa g.1.length sc, .slice oa g.2.length oc] 58)).alloc (.cells #[.string nm, .string so, .slice a L.length cap] 25))
  have HB1 := Lib.hid (allocOld (alloc0 w (.cells #[.slice sa g.1.length sc, .slice oa g.2.length oc] 58)) (.cells #[.string nm, .string so, .slice a L.length cap] 25))
  have HB2 := Lib.hid (alloc_at (w.alloc (.cells #[.slice sa g.1.length sc, .slice oa g.2.length oc] 58)) (.cells #[.string nm, .string so, .slice a L.length cap] 25) (n := w.heap.size + 1) (by simp))
  have c0 := cellRow HB1.out 0 (.slice sa g.1.length sc) rfl
  have c1 := cellRow HB1.out 1 (.slice oa g.2.length oc) rfl
  have t0 := cellRow HB2.out 0 (.string nm) rfl
  have t1 := cellRow HB2.out 1 (.string so) rfl
  have t2 := cellRow HB2.out 2 (.slice a L.length cap) rfl
  have HU := Lib.hid (wrongF_mk g nm so L)
  obtain ⟨V, hV⟩ : ∃ V, wrongF g (.mk nm so L) = V := ⟨_, rfl⟩
  rw [hV] at HU ⊢
  clear hSS hD hT hV ih hsz
  by_cases hs0 : so.size = 0
  · have hse := empty_is _ hs0
    subst hse
    have HU2 : Hid (V = if ¬ dixN g.2 nm < g.2.length then 9 else if L.length ≠ (dg g.2 (dixN g.2 nm)).2.1.length then 3 else if badK g L (dg g.2 (dixN g.2 nm)).2.1 = true then 11 else wrongsF g L) := Lib.hid (by rw [HU.out, if_neg (by simp [nul])])
    have HFX := Lib.hid (HFD.out nm)
    clear HU HFD hs0 HFS
    by_cases hd : dixN g.2 nm < g.2.length
    · have hdi : dixI g.2 nm = (dixN g.2 nm : Int) := by unfold dixI; rw [if_pos hd]
      have HU3 : Hid (V = if L.length ≠ (dg g.2 (dixN g.2 nm)).2.1.length then 3 else if badK g L (dg g.2 (dixN g.2 nm)).2.1 = true then 11 else wrongsF g L) := Lib.hid (by rw [HU2.out, if_neg (by simp [hd])])
      rw [hdi] at HFX
      obtain ⟨k, hkk⟩ : ∃ k, dixN g.2 nm = k := ⟨_, rfl⟩
      rw [hkk] at hd HU3 HFX
      have z0 : ¬ (k : Int) < 0 := by omega
      have z0' : (0 : Int) ≤ (k : Int) := by omega
      have z1 : (k : Int) < (g.2.length : Int) := by omega
      clear hdi hkk HU2
      go_enter Tryz.func90, Tryz.ntmps90
      go_wp2_with fail
      refine (HFX.out _ HZ.out).mono ?_
      rintro e w4 ⟨rfl, hw4⟩
      have H4 := Lib.hid (HZ.out.trans hw4)
      have HB14 := Lib.hid (hw4.heap HB1.out (fun h => h))
      have HB24 := Lib.hid (hw4.heap HB2.out (fun h => h))
      obtain ⟨gg, off, hga, _, hat⟩ := (HD.out.ext H4.out).at_ (by omega)
      subst hga
      obtain ⟨xa, xc, q0, q1, q2, _⟩ := hat k hd
      clear hw4 c0 c1 t0 t1 t2 HFX hat q0 q2 HB1 HB2
      have c1 := cellRow HB14.out 1 (.slice (some ⟨gg, off, none⟩) g.2.length oc) rfl
      have t2 := cellRow HB24.out 2 (.slice a L.length cap) rfl
      by_cases hle : L.length = (dg g.2 k).2.1.length
      · have HLE := Lib.hid hle
        have HU4 : Hid (V = if badK g L (dg g.2 k).2.1 = true then 11 else wrongsF g L) := Lib.hid (by rw [HU3.out, if_neg (by simp [hle])])
        rw [← hle] at q1
        have y1 : ((L.length : Int) == (L.length : Int)) = true := by simp
        clear hle HU3
        go_wp2_with fail
        go_quiet (fail)
        generalize hwq : w4.drewN nq = w5 at *
        have H5p : Hid (Ext w w5) := Lib.hid (by rw [← hwq]; exact H4.out.drewN' nq)
        have HB15 : Hid (w5.heap[w.heap.size]? = some (.cells #[.slice sa g.1.length sc, .slice (some ⟨gg, off, none⟩) g.2.length oc] 58 (0, 0))) := Lib.hid (by rw [← hwq]; exact HB14.out)
        have HB25 : Hid (w5.heap[w.heap.size + 1]? = some (.cells #[.string nm, .string ⟨#[]⟩, .slice a L.length cap] 25 (0, 0))) := Lib.hid (by rw [← hwq]; exact HB24.out)
        clear hwq c1 t2 q1 y1 z0 H4 HB14 HB24
        have t2 := cellRow HB25.out 2 (.slice a L.length cap) rfl
        go_wp2_with fail
        clear t2
        obtain ⟨wa, hwa⟩ : ∃ wa, wa = w5 := ⟨_, rfl⟩
        have HR0 : Hid (Ext wa w5) := Lib.hid (by rw [hwa]; exact Upd.refl _ _)
        rw [← hwa] at H5p HB15 HB25
        clear hwa
        go_loopg [6] L.length (fun gk iv wr => ∃ i : Nat, iv = .int .i64 (i : Int) ∧ gk = L.length - i ∧ i ≤ L.length ∧ Hid (∀ j, j < i → ownF g (tg L j) = nul ∨ ownF g (tg L j) = (dg g.2 k).2.1.getD j nul) ∧ Hid (Ext wa wr))
        case atStart => exact ⟨0, rfl, rfl, Nat.zero_le _, Lib.hid (fun j h => absurd h (Nat.not_lt_zero _)), HR0⟩
        case round =>
          clear HR0
          obtain ⟨i, rfl, rfl, hi, HM, HE⟩ := hrel
          have HBG := Lib.hid (HE.out.heap HB15.out (fun h => h))
          have HBT := Lib.hid (HE.out.heap HB25.out (fun h => h))
          have t2 := cellRow HBT.out 2 (.slice a L.length cap) rfl
          by_cases hlt : i < L.length
          · obtain ⟨g1, o1, hga1, _, hat1⟩ := (HTL.out.ext (H5p.out.trans HE.out)).at_ (by omega)
            subst hga1
            obtain ⟨xa, xc, q0, q1, q2, hx⟩ := hat1 i hlt
            rw [← Nat.add_assoc] at q1 q2
            have z0 : (0 : Int) ≤ (i : Int) := by omega
            have z1 : (i : Int) < (L.length : Int) := by omega
            have z2 : decide ((i : Int) < (L.length : Int)) = true := decide_eq_true z1
            have z2' : decide (i < L.length) = true := decide_eq_true hlt
            have HOX := Lib.hid (fun W (hW : Ext wr W) => own_x g (tg L i) _ _ S T W (HG.out.ext ((H5p.out.trans HE.out).trans hW)) ⟨xa, xc, rfl, hx.ext hW⟩ hgl)
            dsimp only [tV] at HOX
            obtain ⟨x, hxx⟩ : ∃ x, tg L i = x := ⟨_, rfl⟩
            have HXX := Lib.hid hxx
            rw [hxx] at q0 q1 q2 HOX
            obtain ⟨o, ho⟩ : ∃ o, ownF g x = o := ⟨_, rfl⟩
            have HOO : Hid (ownF g (tg L i) = o) := Lib.hid (by rw [hxx, ho])
            rw [ho] at HOX
            have b0 := cellRow HBG.out 0 (.slice sa g.1.length sc) rfl
            have b1 := cellRow HBG.out 1 (.slice (some ⟨gg, off, none⟩) g.2.length oc) rfl
            have hrfs := Upd.refl (fun _ => False) wr
            have xq0 := fun x : XW wr => x.ext.cell q0 (fun h => h)
            have xq1 := fun x : XW wr => x.ext.cell q1 (fun h => h)
            have xq2 := fun x : XW wr => x.ext.cell q2 (fun h => h)
            have xb0 := fun x : XW wr => x.ext.cell b0 (fun h => h)
            have xb1 := fun x : XW wr => x.ext.cell b1 (fun h => h)
            have xt2 := fun x : XW wr => x.ext.cell t2 (fun h => h)
            clear q0 q1 q2 b0 b1 hat1 hx hxx ho
            go_wp2_with fail
            refine wp_region_ext wr (by assumption) (by kernel_rfl) (by kernel_rfl) ?_
            repeat (first | go_big_quiet_skip | (go_big_quiet_want; go_big_quiet_op; first | go_big_quiet_on | (apply Exists.intro; refine ⟨fun x => ?_, ?_⟩; (go_at_call 91; exact XW.call (HOX.out x.val x.ext)); go_big_quiet_on)))
            refine wpQuiet_nil ?_
            rintro w8 ⟨⟨_, hyw8⟩, rfl⟩
            try dsimp only
            have H8 := Lib.hid (HE.out.trans hyw8)
            have HBG8 := Lib.hid (hyw8.heap HBG.out (fun h => h))
            clear HOX xq0 xq1 xq2 xb0 xb1 xt2 hrfs HBG HBT t2
            by_cases ho0 : o.size = 0
            · have hoe := empty_is _ ho0
              subst hoe
              have HN2 : Hid (∀ j, j < i + 1 → ownF g (tg L j) = nul ∨ ownF g (tg L j) = (dg g.2 k).2.1.getD j nul) := Lib.hid (fun j hj => by
                rcases Nat.lt_succ_iff_lt_or_eq.1 hj with h5 | h5
                · exact HM.out j h5
                · rw [h5]; exact .inl HOO.out)
              clear ho0
              go_wp2_with fail
              all_goals
                go_roundg (L.length - (i + 1))
                case measure => omega
                case rel => exact ⟨i + 1, by go_num, rfl, by omega, HN2, H8⟩
            · obtain ⟨e1, e2, e3, e4⟩ := nonempty_t o (Nat.pos_of_ne_zero ho0)
              obtain ⟨_, _, hga, _, hat⟩ := (HD.out.ext (H5p.out.trans H8.out)).at_ (by omega)
              injection hga with hga
              injection hga with hga1 hga2
              subst hga1; subst hga2
              obtain ⟨ya, yc, r0, r1, r2, hy⟩ := hat k hd
              have hy1 := hy
              rw [← HLE.out] at r1
              obtain ⟨g2, o2, hga2, _, hat2⟩ := SlR.one_at (d := nul) hy1 (by rw [← HLE.out]; omega)
              subst hga2
              have p0 := hat2 i (by rw [← HLE.out]; exact hlt)
              have b1 := cellRow HBG8.out 1 (.slice (some ⟨gg, off, none⟩) g.2.length oc) rfl
              obtain ⟨y, hyy⟩ : ∃ y, (dg g.2 k).2.1.getD i nul = y := ⟨_, rfl⟩
              have HYY := Lib.hid hyy
              rw [hyy] at p0
              clear hat r0 r2 hy hy1 hat2 hyy
              by_cases hoy : o = y
              · subst hoy
                have u1 : (o.toList == o.toList) = true := by simp
                have u2 : (o.toList != o.toList) = false := by simp
                have HN2 : Hid (∀ j, j < i + 1 → ownF g (tg L j) = nul ∨ ownF g (tg L j) = (dg g.2 k).2.1.getD j nul) := Lib.hid (fun j hj => by
                  rcases Nat.lt_succ_iff_lt_or_eq.1 hj with h5 | h5
                  · exact HM.out j h5
                  · rw [h5]; exact .inr (by rw [HOO.out, HYY.out]))
                go_wp2_with fail
                all_goals
                  go_roundg (L.length - (i + 1))
                  case measure => omega
                  case rel => exact ⟨i + 1, by go_num, rfl, by omega, HN2, H8⟩
              · have u1 := str_ne hoy
                have HV : Hid (V = 11) := Lib.hid (by
                  have hb : badK g L (dg g.2 k).2.1 = true := by
                    unfold badK
                    refine List.any_eq_true.2 ⟨i, List.mem_range.2 hlt, ?_⟩
                    rw [HOO.out, HYY.out, decide_eq_false (fun e => ho0 (by rw [e]; rfl)), decide_eq_false hoy]; rfl
                  rw [HU4.out, if_pos hb])
                have H9 := Lib.hid (H5p.out.trans H8.out)
                clear hoy
                go_wp2_with fail
                all_goals go_ret
                all_goals (rw [HV.out]; exact ⟨rfl, H9.out⟩)
          · obtain rfl : i = L.length := by omega
            have z2 : decide ((L.length : Int) < (L.length : Int)) = false := decide_eq_false (by omega)
            have HU5 : Hid (V = wrongsF g L) := Lib.hid (by
              rw [HU4.out, if_neg]
              unfold badK
              intro h
              obtain ⟨j, hj, h⟩ := List.any_eq_true.1 h
              have hj := List.mem_range.1 hj
              rcases HM.out j hj with h2 | h2
              · rw [h2] at h; simp at h
              · rw [h2] at h; simp at h)
            have H5 := Lib.hid (H5p.out.trans HE.out)
            go_wp2_with fail
            clear z2 t2 HB15 HB25 HM
            obtain ⟨wb, hwb⟩ : ∃ wb, wb = wr := ⟨_, rfl⟩
            have HR1 : Hid (Ext wb wr) := Lib.hid (by rw [hwb]; exact Upd.refl _ _)
            rw [← hwb] at H5 HBG HBT
            clear hwb HE
            go_loopg [8] L.length (fun gk iv wr => ∃ i : Nat, iv = .int .i64 (i : Int) ∧ gk = L.length - i ∧ i ≤ L.length ∧ Hid (∀ j, j < i → wrongF g (tg L j) = 0) ∧ Hid (Ext wb wr))
            case atStart => exact ⟨0, rfl, rfl, Nat.zero_le _, Lib.hid (fun j h => absurd h (Nat.not_lt_zero _)), HR1⟩
            case round =>
              clear HR1
              obtain ⟨i, rfl, rfl, hi, HM, HE⟩ := hrel
              have HBG2 := Lib.hid (HE.out.heap HBG.out (fun h => h))
              have HBT2 := Lib.hid (HE.out.heap HBT.out (fun h => h))
              have t2 := cellRow HBT2.out 2 (.slice a L.length cap) rfl
              by_cases hlt : i < L.length
              · obtain ⟨g1, o1, hga1, _, hat1⟩ := (HTL.out.ext (H5.out.trans HE.out)).at_ (by omega)
                subst hga1
                obtain ⟨xa, xc, q0, q1, q2, hx⟩ := hat1 i hlt
                rw [← Nat.add_assoc] at q1 q2
                have z0 : (0 : Int) ≤ (i : Int) := by omega
                have z1 : (i : Int) < (L.length : Int) := by omega
                have z2 : decide ((i : Int) < (L.length : Int)) = true := decide_eq_true z1
                have z2' : decide (i < L.length) = true := decide_eq_true hlt
                have hmem := tg_mem L i hlt
                have HOX := Lib.hid (fun W (hW : Ext wr W) => HIH.out (tg L i) hmem _ _ S T W (HG.out.ext ((H5.out.trans HE.out).trans hW)) ⟨xa, xc, rfl, hx.ext hW⟩ hgl hsl (by have := HSL.out _ hmem; omega))
                dsimp only [tV] at HOX
                have HN : Hid (wrongF g (tg L i) = 0 → ∀ j, j < i + 1 → wrongF g (tg L j) = 0) := Lib.hid (fun h j hj => by
                  rcases Nat.lt_succ_iff_lt_or_eq.1 hj with h5 | h5
                  · exact HM.out j h5
                  · rw [h5]; exact h)
                have HY : Hid (wrongF g (tg L i) ≠ 0 → V = wrongF g (tg L i)) := Lib.hid (fun h => by rw [HU5.out]; exact wrongsF_hit g L i hlt HM.out h)
                obtain ⟨x, hxx⟩ : ∃ x, tg L i = x := ⟨_, rfl⟩
                rw [hxx] at q0 q1 q2 HOX HN HY
                obtain ⟨o, ho⟩ : ∃ o, wrongF g x = o := ⟨_, rfl⟩
                rw [ho] at HOX HN HY
                have b0 := cellRow HBG2.out 0 (.slice sa g.1.length sc) rfl
                have b1 := cellRow HBG2.out 1 (.slice (some ⟨gg, off, none⟩) g.2.length oc) rfl
                have hrfs := Upd.refl (fun _ => False) wr
                have xq0 := fun x : XW wr => x.ext.cell q0 (fun h => h)
                have xq1 := fun x : XW wr => x.ext.cell q1 (fun h => h)
                have xq2 := fun x : XW wr => x.ext.cell q2 (fun h => h)
                have xb0 := fun x : XW wr => x.ext.cell b0 (fun h => h)
                have xb1 := fun x : XW wr => x.ext.cell b1 (fun h => h)
                have xt2 := fun x : XW wr => x.ext.cell t2 (fun h => h)
                clear q0 q1 q2 b0 b1 hat1 hx hxx ho hmem HM HBG2 HBT2
                go_wp2_with fail
                refine wp_region_ext wr (by assumption) (by kernel_rfl) (by kernel_rfl) ?_
                repeat (first | go_big_quiet_skip | (go_big_quiet_want; go_big_quiet_op; first | go_big_quiet_on | (apply Exists.intro; refine ⟨fun x => ?_, ?_⟩; (go_at_call 90; exact XW.call (HOX.out x.val x.ext)); go_big_quiet_on)))
                refine wpQuiet_nil ?_
                rintro w8 ⟨⟨_, hyw8⟩, rfl⟩
                try dsimp only
                have H8 := Lib.hid (HE.out.trans hyw8)
                have H9 := Lib.hid (H5.out.trans H8.out)
                clear HOX xq0 xq1 xq2 xb0 xb1 xt2 hrfs t2
                by_cases ho0 : o = 0
                · subst ho0
                  have HN2 := Lib.hid (HN.out (by simp))
                  clear HN HY
                  go_wp2_with fail
                  go_roundg (L.length - (i + 1))
                  case measure => omega
                  case rel => exact ⟨i + 1, by go_num, rfl, by omega, HN2, H8⟩
                · have HV := Lib.hid (HY.out ho0)
                  have e0 : (o == 0) = false := beq_eq_false_iff_ne.2 ho0
                  have e1 : (o != 0) = true := by simp [ho0]
                  clear HN HY
                  go_wp2_with fail
                  all_goals go_ret
                  all_goals (rw [HV.out]; exact ⟨rfl, H9.out⟩)
              · obtain rfl : i = L.length := by omega
                have z2 : decide ((L.length : Int) < (L.length : Int)) = false := decide_eq_false (by omega)
                have HV : Hid (V = 0) := Lib.hid (by
                  rw [HU5.out, wrongsF_zero]
                  exact all_of_tg HM.out)
                have H9 := Lib.hid (H5.out.trans HE.out)
                go_wp2_with fail
                all_goals go_ret
                all_goals (rw [HV.out]; exact ⟨rfl, H9.out⟩)
      · have HV : Hid (V = 3) := Lib.hid (by rw [HU3.out, if_pos hle])
        obtain ⟨n2, hn2⟩ : ∃ n2, (dg g.2 k).2.1.length = n2 := ⟨_, rfl⟩
        rw [hn2] at q1 hle
        have y1 : ((L.length : Int) == (n2 : Int)) = false := beq_eq_false_iff_ne.2 (by omega)
        have y2 : ¬ (L.length : Int) = (n2 : Int) := by omega
        clear hn2
        go_wp2_with fail
        go_quiet (fail)
        go_wp2_with fail
        all_goals go_ret
        all_goals (rw [HV.out]; exact ⟨rfl, H4.out.drewN' _⟩)
    · have hdi : dixI g.2 nm = -1 := by unfold dixI; rw [if_neg hd]
      have HV : Hid (V = 9) := Lib.hid (by rw [HU2.out, if_pos hd])
      rw [hdi] at HFX
      clear hdi HU2 hd
      go_enter Tryz.func90, Tryz.ntmps90
      go_wp2_with fail
      refine (HFX.out _ HZ.out).mono ?_
      rintro e w4 ⟨rfl, hw4⟩
      have H4 := Lib.hid (HZ.out.trans hw4)
      clear hw4 c0 c1 t0 t1 t2 HFX
      go_wp2_with fail
      all_goals go_ret
      all_goals (rw [HV.out]; exact ⟨rfl, H4.out⟩)
  · obtain ⟨e1, e2, e3, e4⟩ := nonempty_t so (Nat.pos_of_ne_zero hs0)
    have HU2 : Hid (V = if so ∈ g.1 then 0 else 9) := Lib.hid (by
      rw [HU.out, if_pos (fun e => hs0 (by rw [e]; rfl))])
    have hng := ixI_neg g.1 so
    clear HU
    by_cases hm : so ∈ g.1
    · have HV : Hid (V = 0) := Lib.hid (by rw [HU2.out, if_pos hm])
      rw [decide_eq_true hm] at hng
      have hn := of_decide_eq_false hng
      generalize ixI g.1 so = X at *
      clear hm hng HU2
      go_enter Tryz.func90, Tryz.ntmps90
      go_wp2_with fail
      refine (HFS.out _ HZ.out).mono ?_
      rintro e w4 ⟨rfl, hw4⟩
      have H4 := Lib.hid (HZ.out.trans hw4)
      clear hw4 c0 c1 t0 t1 t2
      go_wp2_with fail
      all_goals go_ret
      all_goals (rw [HV.out]; exact ⟨rfl, H4.out⟩)
    · have HV : Hid (V = 9) := Lib.hid (by rw [HU2.out, if_neg hm])
      rw [decide_eq_false hm] at hng
      have hn := of_decide_eq_true hng
      generalize ixI g.1 so = X at *
      clear hm hng HU2
      go_enter Tryz.func90, Tryz.ntmps90
      go_wp2_with fail
      refine (HFS.out _ HZ.out).mono ?_
      rintro e w4 ⟨rfl, hw4⟩
      have H4 := Lib.hid (HZ.out.trans hw4)
      clear hw4 c0 c1 t0 t1 t2
      go_wp2_with fail
      all_goals go_ret
      all_goals (rw [HV.out]; exact ⟨rfl, H4.out⟩)

end Go.Proofs.YtiimccogojkldaaGreatDoor

/- ValidSignature of the reference. -/
namespace Go.Proofs.YtiimccogojkldaaGreatDoor
open Go.RowKit Go.Hw Go
set_option linter.unusedVariables false
set_option linter.unusedSimpArgs false

open Tm
theorem vsg_sorts {g : Sg} {k : Nat} (hk : k < g.1.length) (h : nmB (g.1.getD k nul) = false ∨ g.1.getD k nul ∈ g.1.take k) : vsgB nmB g = false := by
  unfold vsgB
  rw [precP_stop hk h]; simp
theorem vsg_op {g : Sg} {k : Nat} (hk : k < g.2.length) (h : okD nmB g k = false) : vsgB nmB g = false := by
  have h1 : (List.range g.2.length).all (okD nmB g) = false := by
    rw [Bool.eq_false_iff]
    intro h2
    rw [List.all_eq_true.1 h2 k (List.mem_range.2 hk)] at h; cases h
  unfold vsgB
  rw [h1]; simp
theorem vsg_yes {g : Sg} (h1 : g.1.length ≤ 40) (h2 : g.2.length ≤ 100) (h3 : ∀ j, j < g.1.length → nmB (g.1.getD j nul) = true ∧ g.1.getD j nul ∉ g.1.take j) (h4 : ∀ j, j < g.2.length → okD nmB g j = true) : vsgB nmB g = true := by
  unfold vsgB
  have h5 : precP nmB g.1 = true := by
    unfold precP
    rw [decide_eq_true (by omega), Bool.true_and, List.all_eq_true]
    intro i hi
    have h6 := h3 i (List.mem_range.1 hi)
    rw [h6.1, decide_eq_false h6.2]; rfl
  rw [decide_eq_true h1, decide_eq_true h2, h5, List.all_eq_true.2 (fun i hi => h4 i (List.mem_range.1 hi))]; rfl
set_option maxRecDepth 100000 in
set_option maxHeartbeats 2000000 in
theorem vsig_x (g : Sg) (v : Value) (S : Nat → Prop) (w : World) (hG : SgR S w g v) (hl1 : g.1.length ≤ 1000000) (hl2 : g.2.length ≤ 1000000) : Calls Tryz.prog 30 #[v] w fun e w' => e = .returned (.bool (vsgB nmB g)) ∧ Ext w w' := by
  have HG := Lib.hid hG
  have HFD := Lib.hid (fun s W (hW : Ext w W) => dfind_x g s v S W (hG.ext hW) hl2)
  obtain ⟨sa, sc, oa, oc, rfl, hS1, hD⟩ := hG
  have HS1 := Lib.hid hS1
  have HD := Lib.hid hD
  have HZ := Lib.hid ((Upd.refl (fun _ => False) w).alloc (.cells #[.slice sa g.1.length sc, .slice oa g.2.length oc] 58))
  have HB := Lib.hid (alloc0 w (.cells #[.slice sa g.1.length sc, .slice oa g.2.length oc] 58))
  have c0 := cellRow HB.out 0 (.slice sa g.1.length sc) rfl
  have c1 := cellRow HB.out 1 (.slice oa g.2.length oc) rfl
  have hsc : g.1.length ≤ sc := SlR.le_cap hS1 rfl
  obtain ⟨V, hV⟩ : ∃ V, vsgB nmB g = V := ⟨_, rfl⟩
  have HVV := Lib.hid hV.symm
  rw [hV]
  clear hS1 hD hV
  by_cases hb1 : 40 < g.1.length
  · have HV : Hid (V = false) := Lib.hid (by rw [HVV.out]; unfold vsgB; rw [decide_eq_false (by omega)]; rfl)
    have z1 : (40 : Int) < (g.1.length : Int) := by omega
    have z1' : decide ((40 : Int) < (g.1.length : Int)) = true := decide_eq_true z1
    go_enter Tryz.func30, Tryz.ntmps30
    go_wp2_with fail
    all_goals go_ret
    all_goals (rw [HV.out]; exact ⟨rfl, HZ.out⟩)
  have z1 : ¬ (40 : Int) < (g.1.length : Int) := by omega
  have z1' : decide ((40 : Int) < (g.1.length : Int)) = false := decide_eq_false z1
  by_cases hb2 : 100 < g.2.length
  · have HV : Hid (V = false) := Lib.hid (by rw [HVV.out]; unfold vsgB; rw [decide_eq_false (p := g.2.length ≤ 100) (by omega)]; simp)
    have z2 : (100 : Int) < (g.2.length : Int) := by omega
    have z2' : decide ((100 : Int) < (g.2.length : Int)) = true := decide_eq_true z2
    go_enter Tryz.func30, Tryz.ntmps30
    go_wp2_with fail
    all_goals go_ret
    all_goals (rw [HV.out]; exact ⟨rfl, HZ.out⟩)
  have z2 : ¬ (100 : Int) < (g.2.length : Int) := by omega
  have z2' : decide ((100 : Int) < (g.2.length : Int)) = false := decide_eq_false z2
  go_enter Tryz.func30, Tryz.ntmps30
  go_wp2_with fail
  clear z1 z1' z2 z2' c0 c1
  generalize w.alloc (.cells #[.slice sa g.1.length sc, .slice oa g.2.length oc] 58) = w1 at *
  go_loopg [3] g.1.length (fun gk iv wr => ∃ k : Nat, iv = .int .i64 (k : Int) ∧ gk = g.1.length - k ∧ k ≤ g.1.length ∧ Hid (∀ j, j < k → nmB (g.1.getD j nul) = true ∧ g.1.getD j nul ∉ g.1.take j) ∧ Hid (Ext w1 wr))
  case atStart => exact ⟨0, rfl, rfl, Nat.zero_le _, Lib.hid (fun j h => absurd h (Nat.not_lt_zero _)), Lib.hid (Upd.refl _ _)⟩
  case round =>
    obtain ⟨k, rfl, rfl, hk, HC, HE⟩ := hrel
    have HBr := Lib.hid (HE.out.heap HB.out (fun h => h))
    have c0 := cellRow HBr.out 0 (.slice sa g.1.length sc) rfl
    have c1 := cellRow HBr.out 1 (.slice oa g.2.length oc) rfl
    by_cases hlt : k < g.1.length
    · have HRk := Lib.hid ((StR.ext HS1.out (HZ.out.trans HE.out)).to (k := k) (by omega))
      have hcap : k ≤ sc := Nat.le_trans hk hsc
      obtain ⟨gg, off, hga, _, hat⟩ := StR.at_ (StR.ext HS1.out (HZ.out.trans HE.out)) (by omega)
      subst hga
      have q0 := hat k hlt
      have z0 : (0 : Int) ≤ (k : Int) := by omega
      have z1 : (k : Int) < (g.1.length : Int) := by omega
      have z2 : decide ((k : Int) < (g.1.length : Int)) = true := decide_eq_true z1
      have z2' : decide (k < g.1.length) = true := decide_eq_true hlt
      have z3 : (k : Int) ≤ (g.1.length : Int) := by omega
      clear hat
      obtain ⟨x, hx⟩ : ∃ x, bg g.1 k = x := ⟨_, rfl⟩
      have HX := Lib.hid hx
      rw [hx] at q0
      clear hx
      have HIN := Lib.hid (fun W (hW : Ext wr W) => rIsName_x x W)
      have HIXx := Lib.hid (fun W (hW : Ext wr W) => find_e2 (g.1.take k) x _ S W (StR.ext HRk.out hW) (by rw [List.length_take]; omega))
      have HNN := Lib.hid (ixI_nn (g.1.take k) x)
      have q0' := fun X : XW wr => X.ext.cell q0 (fun h => h)
      have c0' := fun X : XW wr => X.ext.cell c0 (fun h => h)
      have hrfs := Upd.refl (fun _ => False) wr
      have HST : Hid (nmB x = false ∨ x ∈ g.1.take k → V = false) := Lib.hid (fun h => by rw [HVV.out]; exact vsg_sorts hlt (by rw [show g.1.getD k nul = x from HX.out]; exact h))
      have HON : Hid (nmB x = true → x ∉ g.1.take k → ∀ j, j < k + 1 → nmB (g.1.getD j nul) = true ∧ g.1.getD j nul ∉ g.1.take j) := Lib.hid (fun h1 h2 j hj => by
        rcases Nat.lt_succ_iff_lt_or_eq.1 hj with h5 | h5
        · exact HC.out j h5
        · rw [h5, show g.1.getD k nul = x from HX.out]; exact ⟨h1, h2⟩)
      obtain ⟨b1, hb1⟩ : ∃ b, nmB x = b := ⟨_, rfl⟩
      rw [hb1] at HIN HST HON
      obtain ⟨b2, hb2⟩ : ∃ b, decide (x ∈ g.1.take k) = b := ⟨_, rfl⟩
      rw [hb2] at HNN
      have HB2 := Lib.hid hb2
      clear hb1 hb2
      cases b1
      · go_wp2_with fail
        clear q0
        refine wp_region_ext wr (by assumption) (by kernel_rfl) (by kernel_rfl) ?_
        repeat (first | go_big_quiet_skip | (go_big_quiet_want; go_big_quiet_op; first | go_big_quiet_on | (apply Exists.intro; refine ⟨fun x => ?_, ?_⟩; (first | (go_at_call 55; exact XW.call (HIN.out x.val x.ext)) | (go_at_call 64; exact XW.call (HIXx.out x.val x.ext))); go_big_quiet_on)))
        refine wpQuiet_nil ?_
        rintro w8 ⟨⟨_, hyw8⟩, rfl⟩
        try dsimp only
        have HV := Lib.hid (HST.out (.inl (by simp)))
        have HE8 := Lib.hid (HZ.out.trans (HE.out.trans hyw8))
        clear c0 c1
        go_wp2_with fail
        all_goals go_ret
        all_goals (rw [HV.out]; exact ⟨rfl, HE8.out⟩)
      · cases b2
        · go_wp2_with fail
          clear q0
          refine wp_region_ext wr (by assumption) (by kernel_rfl) (by kernel_rfl) ?_
          repeat (first | go_big_quiet_skip | (go_big_quiet_want; go_big_quiet_op; first | go_big_quiet_on | (apply Exists.intro; refine ⟨fun x => ?_, ?_⟩; (first | (go_at_call 55; exact XW.call (HIN.out x.val x.ext)) | (go_at_call 64; exact XW.call (HIXx.out x.val x.ext))); go_big_quiet_on)))
          refine wpQuiet_nil ?_
          rintro w8 ⟨⟨_, hyw8⟩, rfl⟩
          try dsimp only
          have HN := Lib.hid (HON.out (by simp) (of_decide_eq_false HB2.out))
          have HE8 := Lib.hid (HE.out.trans hyw8)
          have h9 := of_decide_eq_false HNN.out
          have h9' := HNN.out
          clear c0 c1
          go_wp2_with fail
          go_roundg (g.1.length - (k + 1))
          case measure => omega
          case rel => exact ⟨k + 1, by go_num, rfl, by omega, HN, HE8⟩
        · go_wp2_with fail
          clear q0
          refine wp_region_ext wr (by assumption) (by kernel_rfl) (by kernel_rfl) ?_
          repeat (first | go_big_quiet_skip | (go_big_quiet_want; go_big_quiet_op; first | go_big_quiet_on | (apply Exists.intro; refine ⟨fun x => ?_, ?_⟩; (first | (go_at_call 55; exact XW.call (HIN.out x.val x.ext)) | (go_at_call 64; exact XW.call (HIXx.out x.val x.ext))); go_big_quiet_on)))
          refine wpQuiet_nil ?_
          rintro w8 ⟨⟨_, hyw8⟩, rfl⟩
          try dsimp only
          have HV := Lib.hid (HST.out (.inr (of_decide_eq_true HB2.out)))
          have HE8 := Lib.hid (HZ.out.trans (HE.out.trans hyw8))
          have h9 := of_decide_eq_true HNN.out
          have h9' := HNN.out
          clear c0 c1
          go_wp2_with fail
          all_goals go_ret
          all_goals (rw [HV.out]; exact ⟨rfl, HE8.out⟩)
    · obtain rfl : k = g.1.length := by omega
      have z2 : decide ((g.1.length : Int) < (g.1.length : Int)) = false := decide_eq_false (by omega)
      have HSO := HC
      have H1 := Lib.hid (HZ.out.trans HE.out)
      clear HC HE HB
      go_wp2_with fail
      clear z2 c0 c1
      obtain ⟨wa, hwa⟩ : ∃ wa, wa = wr := ⟨_, rfl⟩
      have HR0 : Hid (Ext wa wr) := Lib.hid (by rw [hwa]; exact Upd.refl _ _)
      rw [← hwa] at H1 HBr
      clear hwa
      go_loopg [4] g.2.length (fun gk iv wr => ∃ k : Nat, iv = .int .i64 (k : Int) ∧ gk = g.2.length - k ∧ k ≤ g.2.length ∧ Hid (∀ j, j < k → okD nmB g j = true) ∧ Hid (Ext wa wr))
      case atStart => exact ⟨0, rfl, rfl, Nat.zero_le _, Lib.hid (fun j h => absurd h (Nat.not_lt_zero _)), HR0⟩
      case round =>
        clear HR0
        obtain ⟨k, rfl, rfl, hk, HC, HE⟩ := hrel
        have HB2 := Lib.hid (HE.out.heap HBr.out (fun h => h))
        have c0 := cellRow HB2.out 0 (.slice sa g.1.length sc) rfl
        have c1 := cellRow HB2.out 1 (.slice oa g.2.length oc) rfl
        by_cases hlt : k < g.2.length
        · obtain ⟨gg, off, hga, _, hat⟩ := (HD.out.ext (H1.out.trans HE.out)).at_ (by omega)
          subst hga
          obtain ⟨xa, xc, q0, q1, q2, hAr⟩ := hat k hlt
          have z0 : (0 : Int) ≤ (k : Int) := by omega
          have z1 : (k : Int) < (g.2.length : Int) := by omega
          have z2 : decide ((k : Int) < (g.2.length : Int)) = true := decide_eq_true z1
          have z2' : decide (k < g.2.length) = true := decide_eq_true hlt
          have HOK : Hid (okD nmB g k = (nmB (dg g.2 k).1 && (decide (dixN g.2 (dg g.2 k).1 = k) && (decide ((dg g.2 k).2.1.length ≤ 6) && (decide ((dg g.2 k).2.2 ∈ g.1) && (dg g.2 k).2.1.all fun s => decide (s ∈ g.1)))))) := Lib.hid rfl
          have HYES : Hid (okD nmB g k = true → ∀ j, j < k + 1 → okD nmB g j = true) := Lib.hid (fun h j hj => by
            rcases Nat.lt_succ_iff_lt_or_eq.1 hj with h5 | h5
            · exact HC.out j h5
            · rw [h5]; exact h)
          have HNOT : Hid (okD nmB g k = false → V = false) := Lib.hid (fun h => by rw [HVV.out]; exact vsg_op hlt h)
          obtain ⟨⟨dn, da, dr⟩, hdd⟩ : ∃ d, dg g.2 k = d := ⟨_, rfl⟩
          rw [hdd] at q0 q1 q2 HOK hAr
          dsimp only at q0 q1 q2 HOK hAr
          have HAr := Lib.hid hAr
          have hQ := (Upd.refl (fun _ => False) wr).alloc (.cells #[.string dn, .slice xa da.length xc, .string dr] 102)
          have HQ := Lib.hid (H1.out.trans (HE.out.trans hQ))
          have HAQ := Lib.hid (SlR.kept hAr hQ (fun _ _ h => h))
          have HEQ := Lib.hid (HE.out.trans hQ)
          have HBD := Lib.hid (alloc0 wr (.cells #[.string dn, .slice xa da.length xc, .string dr] 102))
          have HBG := Lib.hid (hQ.heap HB2.out (fun h => h))
          clear hat hdd hAr hQ HC
          have d0 := cellRow HBD.out 0 (.string dn) rfl
          have d1 := cellRow HBD.out 1 (.slice xa da.length xc) rfl
          have d2 := cellRow HBD.out 2 (.string dr) rfl
          have e0 := cellRow HBG.out 0 (.slice sa g.1.length sc) rfl
          have e1 := cellRow HBG.out 1 (.slice (some ⟨gg, off, none⟩) g.2.length oc) rfl
          have HIN := Lib.hid (rIsName_x dn (wr.alloc (.cells #[.string dn, .slice xa da.length xc, .string dr] 102)))
          obtain ⟨b1, hb1⟩ : ∃ b, nmB dn = b := ⟨_, rfl⟩
          rw [hb1] at HIN HOK
          clear hb1
          go_wp2_with fail
          clear c0 c1 q0 q1 q2
          generalize wr.alloc (.cells #[.string dn, .slice xa da.length xc, .string dr] 102) = w4 at *
          obtain ⟨nd, hnd⟩ : ∃ nd, wr.heap.size = nd := ⟨_, rfl⟩
          try rw [hnd] at HBD d0 d1 d2
          try rw [hnd]
          clear hnd
          refine HIN.out.mono ?_
          rintro e w5 ⟨rfl, hw5⟩
          have H5 := Lib.hid (HQ.out.trans hw5)
          have HX5 := Lib.hid hw5
          have HBD5 := Lib.hid (hw5.heap HBD.out (fun h => h))
          have HBG5 := Lib.hid (hw5.heap HBG.out (fun h => h))
          clear hw5 d0 d1 d2 e0 e1
          have d0 := cellRow HBD5.out 0 (.string dn) rfl
          have d1 := cellRow HBD5.out 1 (.slice xa da.length xc) rfl
          have d2 := cellRow HBD5.out 2 (.string dr) rfl
          have e0 := cellRow HBG5.out 0 (.slice sa g.1.length sc) rfl
          have e1 := cellRow HBG5.out 1 (.slice (some ⟨gg, off, none⟩) g.2.length oc) rfl
          cases b1
          · have HV := Lib.hid (HNOT.out (by rw [HOK.out]; rfl))
            go_wp2_with fail
            all_goals go_ret
            all_goals (rw [HV.out]; exact ⟨rfl, H5.out⟩)
          have HFX := Lib.hid (HFD.out dn w5 H5.out)
          by_cases hdx : dixN g.2 dn = k
          case neg =>
            have HV := Lib.hid (HNOT.out (by rw [HOK.out, decide_eq_false hdx]; simp))
            have hne : dixI g.2 dn ≠ (k : Int) := by
              unfold dixI
              split
              · omega
              · omega
            generalize dixI g.2 dn = X at *
            have y1 : (X == (k : Int)) = false := beq_eq_false_iff_ne.2 hne
            have y2 : (X != (k : Int)) = true := by simp [hne]
            go_wp2_with fail
            refine HFX.out.mono ?_
            rintro e w6 ⟨rfl, hw6⟩
            have H6 := Lib.hid (H5.out.trans hw6)
            clear hw6 d0 d1 d2 e0 e1
            go_wp2_with fail
            all_goals go_ret
            all_goals (rw [HV.out]; exact ⟨rfl, H6.out⟩)
          have hdi : dixI g.2 dn = (k : Int) := by
            unfold dixI
            rw [hdx, if_pos hlt]
          rw [hdi] at HFX
          have HOK2 : Hid (okD nmB g k = (decide (da.length ≤ 6) && (decide (dr ∈ g.1) && da.all fun s => decide (s ∈ g.1)))) := Lib.hid (by rw [HOK.out, decide_eq_true hdx]; simp)
          clear hdi hdx HOK
          have y1 : ((k : Int) == (k : Int)) = true := by simp
          go_wp2_with fail
          refine HFX.out.mono ?_
          rintro e w6 ⟨rfl, hw6⟩
          have H6 := Lib.hid (H5.out.trans hw6)
          have HX6 := Lib.hid hw6
          have HBD6 := Lib.hid (hw6.heap HBD5.out (fun h => h))
          have HBG6 := Lib.hid (hw6.heap HBG5.out (fun h => h))
          clear hw6 d0 d1 d2 e0 e1
          have d0 := cellRow HBD6.out 0 (.string dn) rfl
          have d1 := cellRow HBD6.out 1 (.slice xa da.length xc) rfl
          have d2 := cellRow HBD6.out 2 (.string dr) rfl
          have e0 := cellRow HBG6.out 0 (.slice sa g.1.length sc) rfl
          have e1 := cellRow HBG6.out 1 (.slice (some ⟨gg, off, none⟩) g.2.length oc) rfl
          clear HFX y1
          by_cases hd6 : 6 < da.length
          · have HV := Lib.hid (HNOT.out (by rw [HOK2.out, decide_eq_false (by omega)]; rfl))
            have y3 : (6 : Int) < (da.length : Int) := by omega
            have y3' : decide ((6 : Int) < (da.length : Int)) = true := decide_eq_true y3
            clear hd6
            go_wp2_with fail
            all_goals go_ret
            all_goals (rw [HV.out]; exact ⟨rfl, H6.out⟩)
          have y3 : ¬ (6 : Int) < (da.length : Int) := by omega
          have y3' : decide ((6 : Int) < (da.length : Int)) = false := decide_eq_false y3
          have HFS := Lib.hid (find_e2 g.1 dr _ S w6 (SlR.kept HS1.out H6.out (fun _ _ h => h)) (by omega))
          have hng := ixI_neg g.1 dr
          by_cases hm : dr ∈ g.1
          case neg =>
            have HV := Lib.hid (HNOT.out (by rw [HOK2.out, decide_eq_false hm]; simp))
            rw [decide_eq_false hm] at hng
            have hn := of_decide_eq_true hng
            have hn' : decide (ixI g.1 dr < (0 : Int)) = true := hng
            generalize ixI g.1 dr = X at *
            clear hm hng
            go_wp2_with fail
            refine HFS.out.mono ?_
            rintro e w7 ⟨rfl, hw7⟩
            have H7 := Lib.hid (H6.out.trans hw7)
            clear hw7 d0 d1 d2 e0 e1
            go_wp2_with fail
            all_goals go_ret
            all_goals (rw [HV.out]; exact ⟨rfl, H7.out⟩)
          have HOK3 : Hid (okD nmB g k = da.all fun s => decide (s ∈ g.1)) := Lib.hid (by rw [HOK2.out, decide_eq_true hm, decide_eq_true (p := da.length ≤ 6) (by omega)]; simp)
          rw [decide_eq_true hm] at hng
          have hn := of_decide_eq_false hng
          have hn' : decide (ixI g.1 dr < (0 : Int)) = false := hng
          generalize ixI g.1 dr = X at *
          clear hm hng HOK2
          go_wp2_with fail
          refine HFS.out.mono ?_
          rintro e w7 ⟨rfl, hw7⟩
          have H7 := Lib.hid (H6.out.trans hw7)
          have HX7 := Lib.hid hw7
          have HBD7 := Lib.hid (hw7.heap HBD6.out (fun h => h))
          have HBG7 := Lib.hid (hw7.heap HBG6.out (fun h => h))
          clear hw7 d0 d1 d2 e0 e1
          have d0 := cellRow HBD7.out 0 (.string dn) rfl
          have d1 := cellRow HBD7.out 1 (.slice xa da.length xc) rfl
          have d2 := cellRow HBD7.out 2 (.string dr) rfl
          have e0 := cellRow HBG7.out 0 (.slice sa g.1.length sc) rfl
          have e1 := cellRow HBG7.out 1 (.slice (some ⟨gg, off, none⟩) g.2.length oc) rfl
          clear HFS y3 y3'
          have HEA : Hid (Ext wa w7) := Lib.hid (HEQ.out.trans (HX5.out.trans (HX6.out.trans HX7.out)))
          have HA7 := Lib.hid (SlR.kept HAQ.out (HX5.out.trans (HX6.out.trans HX7.out)) (fun _ _ h => h))
          clear HX5 HX6 HX7 HEQ HAQ HAr
          go_wp2_with fail
          clear d0 d1 d2 e0 e1 hn hn'
          obtain ⟨wb, hwb⟩ : ∃ wb, wb = w7 := ⟨_, rfl⟩
          have HR1 : Hid (Ext wb w7) := Lib.hid (by rw [hwb]; exact Upd.refl _ _)
          rw [← hwb] at H7 HBD7 HBG7 HEA HA7
          clear hwb
          go_loopg [6] da.length (fun gk iv wr => ∃ i : Nat, iv = .int .i64 (i : Int) ∧ gk = da.length - i ∧ i ≤ da.length ∧ Hid (∀ j, j < i → da.getD j nul ∈ g.1) ∧ Hid (Ext wb wr))
          case atStart => exact ⟨0, rfl, rfl, Nat.zero_le _, Lib.hid (fun j h => absurd h (Nat.not_lt_zero _)), HR1⟩
          case round =>
            clear HR1
            obtain ⟨i, rfl, rfl, hi, HM, HE2⟩ := hrel
            have HBD8 := Lib.hid (HE2.out.heap HBD7.out (fun h => h))
            have HBG8 := Lib.hid (HE2.out.heap HBG7.out (fun h => h))
            have d1 := cellRow HBD8.out 1 (.slice xa da.length xc) rfl
            by_cases hlti : i < da.length
            · obtain ⟨g2, o2, hga2, _, hat2⟩ := SlR.one_at (d := nul) (SlR.kept HA7.out HE2.out (fun _ _ h => h)) (by omega)
              subst hga2
              have p0 := hat2 i hlti
              have z0 : (0 : Int) ≤ (i : Int) := by omega
              have z1 : (i : Int) < (da.length : Int) := by omega
              have z2 : decide ((i : Int) < (da.length : Int)) = true := decide_eq_true z1
              have z2' : decide (i < da.length) = true := decide_eq_true hlti
              obtain ⟨x, hx⟩ : ∃ x, da.getD i nul = x := ⟨_, rfl⟩
              have HX := Lib.hid hx
              rw [hx] at p0
              have e0 := cellRow HBG8.out 0 (.slice sa g.1.length sc) rfl
              have HFS := Lib.hid (fun W (hW : Ext wr W) => find_e2 g.1 x _ S W (SlR.kept HS1.out ((H7.out.trans HE2.out).trans hW) (fun _ _ h => h)) (by omega))
              have hng := ixI_neg g.1 x
              have hrfs := Upd.refl (fun _ => False) wr
              have xp0 := fun x : XW wr => x.ext.cell p0 (fun h => h)
              have xe0 := fun x : XW wr => x.ext.cell e0 (fun h => h)
              have xd1 := fun x : XW wr => x.ext.cell d1 (fun h => h)
              clear hat2 hx p0 e0
              by_cases hm : x ∈ g.1
              · rw [decide_eq_true hm] at hng
                have hn := of_decide_eq_false hng
                have hn' : decide (ixI g.1 x < (0 : Int)) = false := hng
                have HN : Hid (∀ j, j < i + 1 → da.getD j nul ∈ g.1) := Lib.hid (fun j hj => by
                  rcases Nat.lt_succ_iff_lt_or_eq.1 hj with h5 | h5
                  · exact HM.out j h5
                  · rw [h5, HX.out]; exact hm)
                generalize ixI g.1 x = X at *
                clear hm hng
                go_wp2_with fail
                refine wp_region_ext wr (by assumption) (by kernel_rfl) (by kernel_rfl) ?_
                repeat (first | go_big_quiet_skip | (go_big_quiet_want; go_big_quiet_op; first | go_big_quiet_on | (apply Exists.intro; refine ⟨fun x => ?_, ?_⟩; (go_at_call 64; exact XW.call (HFS.out x.val x.ext)); go_big_quiet_on)))
                refine wpQuiet_nil ?_
                rintro w8 ⟨⟨_, hyw8⟩, rfl⟩
                try dsimp only
                have HE8 := Lib.hid (HE2.out.trans hyw8)
                clear d1 xp0 xe0 xd1 HFS hrfs
                go_wp2_with fail
                go_roundg (da.length - (i + 1))
                case measure => omega
                case rel => exact ⟨i + 1, by go_num, rfl, by omega, HN, HE8⟩
              · rw [decide_eq_false hm] at hng
                have hn := of_decide_eq_true hng
                have hn' : decide (ixI g.1 x < (0 : Int)) = true := hng
                have HV := Lib.hid (HNOT.out (by
                  rw [HOK3.out, Bool.eq_false_iff]
                  intro h
                  refine hm (of_decide_eq_true (List.all_eq_true.1 h x ?_))
                  rw [← HX.out, List.getD_eq_getElem?_getD, List.getElem?_eq_getElem hlti]
                  exact List.getElem_mem hlti))
                generalize ixI g.1 x = X at *
                clear hm hng
                go_wp2_with fail
                refine wp_region_ext wr (by assumption) (by kernel_rfl) (by kernel_rfl) ?_
                repeat (first | go_big_quiet_skip | (go_big_quiet_want; go_big_quiet_op; first | go_big_quiet_on | (apply Exists.intro; refine ⟨fun x => ?_, ?_⟩; (go_at_call 64; exact XW.call (HFS.out x.val x.ext)); go_big_quiet_on)))
                refine wpQuiet_nil ?_
                rintro w8 ⟨⟨_, hyw8⟩, rfl⟩
                try dsimp only
                have HE8 := Lib.hid ((H7.out.trans HE2.out).trans hyw8)
                clear d1 xp0 xe0 xd1 HFS hrfs
                go_wp2_with fail
                all_goals go_ret
                all_goals (rw [HV.out]; exact ⟨rfl, HE8.out⟩)
            · obtain rfl : i = da.length := by omega
              have z2 : decide ((da.length : Int) < (da.length : Int)) = false := decide_eq_false (by omega)
              have HN := Lib.hid (HYES.out (by
                rw [HOK3.out, List.all_eq_true]
                intro s hs
                obtain ⟨j, hj, rfl⟩ := List.mem_iff_getElem.1 hs
                have h1 := HM.out j hj
                rw [List.getD_eq_getElem?_getD, List.getElem?_eq_getElem hj] at h1
                exact decide_eq_true h1))
              have HE8 := Lib.hid (HEA.out.trans HE2.out)
              go_wp2_with fail
              go_roundg (g.2.length - (k + 1))
              case measure => omega
              case rel => exact ⟨k + 1, by go_num, rfl, by omega, HN, HE8⟩
        · obtain rfl : k = g.2.length := by omega
          have z2 : decide ((g.2.length : Int) < (g.2.length : Int)) = false := decide_eq_false (by omega)
          have HV : Hid (V = true) := Lib.hid (by rw [HVV.out]; exact vsg_yes (by omega) (by omega) HSO.out HC.out)
          have H9 := Lib.hid (H1.out.trans HE.out)
          go_wp2_with fail
          all_goals go_ret
          all_goals (rw [HV.out]; exact ⟨rfl, H9.out⟩)

end Go.Proofs.YtiimccogojkldaaGreatDoor

/- Sort, Valid, Vars of the reference. -/
namespace Go.Proofs.YtiimccogojkldaaGreatDoor
open Go.RowKit Go.Hw Go
set_option linter.unusedVariables false
set_option linter.unusedSimpArgs false

open Tm
def sortF (g : Sg) (t : Tm) : By × Int := if vsgB nmB g = false ∨ wf nmB t = false then (nul, 1) else if wrongF g t ≠ 0 then (nul, wrongF g t) else (ownF g t, 0)
def validF (g : Sg) (t : Tm) : Bool := decide ((sortF g t).2 = 0)
theorem validF_iff {g : Sg} {t : Tm} : validF g t = true ↔ vsgB nmB g = true ∧ wf nmB t = true ∧ wrongF g t = 0 := by
  unfold validF sortF
  rw [decide_eq_true_eq]
  cases vsgB nmB g
  · simp
  · cases wf nmB t
    · simp
    · by_cases h : wrongF g t = 0
      · simp [h]
      · simp [h]
theorem mem_vars {t : Tm} (h : wf nmB t = true) (f : Vd) : f ∈ varsT t ↔ f ∈ vl (sbts t) := by
  unfold wf at h
  rw [Bool.and_eq_true] at h
  have h2 := h.2
  unfold sortsT at h2
  obtain ⟨m, hm⟩ := Option.isSome_iff_exists.1 h2
  have h3 := (vFold_spec (vl (sbts t)) [] [] List.Pairwise.nil (fun _ => rfl) (fun _ => Iff.rfl)).2 m hm
  have h4 := ((sFold_spec (vl (sbts t)) [] (fun f hf => by cases hf)).1 m hm).2.1 f
  unfold varsT
  rw [h3.2.2 f, h4]
  simp
theorem no_vars {t : Tm} (h : wf nmB t = true) (h2 : varsT t = []) : ∀ x ∈ sbts t, x.sort = nul := by
  intro x hx
  refine Classical.byContradiction fun h3 => ?_
  have h4 : (x.name, x.sort) ∈ vl (sbts t) := List.mem_filterMap.2 ⟨x, hx, by rw [if_neg h3]⟩
  rw [← mem_vars h, h2] at h4
  cases h4
set_option maxRecDepth 100000 in
set_option maxHeartbeats 2000000 in
theorem rsort_x (g : Sg) (t : Tm) (v u : Value) (S T : Nat → Prop) (w : World) (hG : SgR S w g v) (hT : TmR T w t u) (hl1 : g.1.length ≤ 1000000) (hl2 : g.2.length ≤ 1000000) : Calls Tryz.prog 66 #[v, u] w fun e w' => e = .returned (.tuple #[.string (sortF g t).1, .int .i64 (sortF g t).2]) ∧ Ext w w' := by
  have HVS := Lib.hid (fun W (hW : Ext w W) => vsig_x g v S W (hG.ext hW) hl1 hl2)
  have HRF := Lib.hid (fun W (hW : Ext w W) => rformed_x t u T W (hT.ext hW))
  have HWR := Lib.hid (fun (hw : wf nmB t = true) W (hW : Ext w W) => wrong_x g t v u S T W (hG.ext hW) (hT.ext hW) hl2 hl1 (by have := wf_size hw; omega))
  have HOW := Lib.hid (fun W (hW : Ext w W) => own_x g t v u S T W (hG.ext hW) (hT.ext hW) hl2)
  have HS0 : Hid (vsgB nmB g = false ∨ wf nmB t = false → sortF g t = (nul, 1)) := Lib.hid (fun h => by unfold sortF; rw [if_pos h])
  have HS1 : Hid (vsgB nmB g = true → wf nmB t = true → sortF g t = if wrongF g t ≠ 0 then (nul, wrongF g t) else (ownF g t, 0)) := Lib.hid (fun h h2 => by unfold sortF; rw [if_neg (by rw [h, h2]; simp)])
  obtain ⟨sa, sc, oa, oc, rfl, _, _⟩ := hG
  obtain ⟨a, cap, rfl, _⟩ := hT
  have HZ := Lib.hid (((Upd.refl (fun _ => False) w).alloc (.cells #[.slice sa g.1.length sc, .slice oa g.2.length oc] 58)).alloc (.cells #[.string t.name, .string t.sort, .slice a t.kids.length cap] 25))
  have HBG := Lib.hid (allocOld (alloc0 w (.cells #[.slice sa g.1.length sc, .slice oa g.2.length oc] 58)) (.cells #[.string t.name, .string t.sort, .slice a t.kids.length cap] 25))
  have HBT := Lib.hid (alloc_at (w.alloc (.cells #[.slice sa g.1.length sc, .slice oa g.2.length oc] 58)) (.cells #[.string t.name, .string t.sort, .slice a t.kids.length cap] 25) (n := w.heap.size + 1) (by simp))
  dsimp only [tV] at HRF HWR HOW ⊢
  obtain ⟨V, hV⟩ : ∃ V, sortF g t = V := ⟨_, rfl⟩
  rw [hV] at HS0 HS1 ⊢
  obtain ⟨B1, hB1⟩ : ∃ b, vsgB nmB g = b := ⟨_, rfl⟩
  rw [hB1] at HVS HS0 HS1
  obtain ⟨B2, hB2⟩ : ∃ b, wf nmB t = b := ⟨_, rfl⟩
  rw [hB2] at HRF HWR HS0 HS1
  clear hV hB1 hB2
  have c0 := cellRow HBG.out 0 (.slice sa g.1.length sc) rfl
  have c1 := cellRow HBG.out 1 (.slice oa g.2.length oc) rfl
  have t0 := cellRow HBT.out 0 (.string t.name) rfl
  have t1 := cellRow HBT.out 1 (.string t.sort) rfl
  have t2 := cellRow HBT.out 2 (.slice a t.kids.length cap) rfl
  go_enter Tryz.func66, Tryz.ntmps66
  go_wp2_with fail
  refine (HVS.out _ HZ.out).mono ?_
  rintro e w4 ⟨rfl, hw4⟩
  have H4 := Lib.hid (HZ.out.trans hw4)
  have HBG4 := Lib.hid (hw4.heap HBG.out (fun h => h))
  have HBT4 := Lib.hid (hw4.heap HBT.out (fun h => h))
  clear hw4 c0 c1 t0 t1 t2
  have c0 := cellRow HBG4.out 0 (.slice sa g.1.length sc) rfl
  have c1 := cellRow HBG4.out 1 (.slice oa g.2.length oc) rfl
  have t0 := cellRow HBT4.out 0 (.string t.name) rfl
  have t1 := cellRow HBT4.out 1 (.string t.sort) rfl
  have t2 := cellRow HBT4.out 2 (.slice a t.kids.length cap) rfl
  cases B1
  · have HV := Lib.hid (HS0.out (.inl (by simp)))
    go_wp2_with fail
    all_goals go_ret2
    all_goals (rw [HV.out]; exact ⟨rfl, H4.out⟩)
  go_wp2_with fail
  refine (HRF.out _ H4.out).mono ?_
  rintro e w5 ⟨rfl, hw5⟩
  have H5 := Lib.hid (H4.out.trans hw5)
  have HBG5 := Lib.hid (hw5.heap HBG4.out (fun h => h))
  have HBT5 := Lib.hid (hw5.heap HBT4.out (fun h => h))
  clear hw5 c0 c1 t0 t1 t2
  have c0 := cellRow HBG5.out 0 (.slice sa g.1.length sc) rfl
  have c1 := cellRow HBG5.out 1 (.slice oa g.2.length oc) rfl
  have t0 := cellRow HBT5.out 0 (.string t.name) rfl
  have t1 := cellRow HBT5.out 1 (.string t.sort) rfl
  have t2 := cellRow HBT5.out 2 (.slice a t.kids.length cap) rfl
  cases B2
  · have HV := Lib.hid (HS0.out (.inr (by simp)))
    go_wp2_with fail
    all_goals go_ret2
    all_goals (rw [HV.out]; exact ⟨rfl, H5.out⟩)
  have HS2 := Lib.hid (HS1.out (by simp) (by simp))
  have HWR2 := Lib.hid (HWR.out (by simp) _ H5.out)
  clear HS0 HS1 HWR HVS HRF
  obtain ⟨X, hX⟩ : ∃ X, wrongF g t = X := ⟨_, rfl⟩
  rw [hX] at HWR2 HS2
  clear hX
  go_wp2_with fail
  refine HWR2.out.mono ?_
  rintro e w6 ⟨rfl, hw6⟩
  have H6 := Lib.hid (H5.out.trans hw6)
  have HBG6 := Lib.hid (hw6.heap HBG5.out (fun h => h))
  have HBT6 := Lib.hid (hw6.heap HBT5.out (fun h => h))
  clear hw6 c0 c1 t0 t1 t2
  have c0 := cellRow HBG6.out 0 (.slice sa g.1.length sc) rfl
  have c1 := cellRow HBG6.out 1 (.slice oa g.2.length oc) rfl
  have t0 := cellRow HBT6.out 0 (.string t.name) rfl
  have t1 := cellRow HBT6.out 1 (.string t.sort) rfl
  have t2 := cellRow HBT6.out 2 (.slice a t.kids.length cap) rfl
  clear HWR2
  by_cases hx : X = 0
  case neg =>
    have HV : Hid (V = (nul, X)) := Lib.hid (by rw [HS2.out, if_pos hx])
    have y1 : (X == 0) = false := beq_eq_false_iff_ne.2 hx
    have y2 : (X != 0) = true := by simp [hx]
    go_wp2_with fail
    all_goals go_ret2
    all_goals (rw [HV.out]; exact ⟨rfl, H6.out⟩)
  subst hx
  have HV : Hid (V = (ownF g t, 0)) := Lib.hid (by rw [HS2.out, if_neg (by simp)])
  have HOW2 := Lib.hid (HOW.out _ H6.out)
  generalize ownF g t = Y at *
  go_wp2_with fail
  refine HOW2.out.mono ?_
  rintro e w7 ⟨rfl, hw7⟩
  have H7 := Lib.hid (H6.out.trans hw7)
  clear hw7 c0 c1 t0 t1 t2
  go_wp2_with fail
  all_goals go_ret2
  all_goals (rw [HV.out]; exact ⟨rfl, H7.out⟩)
set_option maxRecDepth 100000 in
set_option maxHeartbeats 2000000 in
theorem rvalid_x (g : Sg) (t : Tm) (v u : Value) (S T : Nat → Prop) (w : World) (hG : SgR S w g v) (hT : TmR T w t u) (hl1 : g.1.length ≤ 1000000) (hl2 : g.2.length ≤ 1000000) : Calls Tryz.prog 31 #[v, u] w fun e w' => e = .returned (.bool (validF g t)) ∧ Ext w w' := by
  have HST := Lib.hid (fun W (hW : Ext w W) => rsort_x g t v u S T W (hG.ext hW) (hT.ext hW) hl1 hl2)
  obtain ⟨sa, sc, oa, oc, rfl, _, _⟩ := hG
  obtain ⟨a, cap, rfl, _⟩ := hT
  have HZ := Lib.hid (((Upd.refl (fun _ => False) w).alloc (.cells #[.slice sa g.1.length sc, .slice oa g.2.length oc] 58)).alloc (.cells #[.string t.name, .string t.sort, .slice a t.kids.length cap] 25))
  have HBG := Lib.hid (allocOld (alloc0 w (.cells #[.slice sa g.1.length sc, .slice oa g.2.length oc] 58)) (.cells #[.string t.name, .string t.sort, .slice a t.kids.length cap] 25))
  have HBT := Lib.hid (alloc_at (w.alloc (.cells #[.slice sa g.1.length sc, .slice oa g.2.length oc] 58)) (.cells #[.string t.name, .string t.sort, .slice a t.kids.length cap] 25) (n := w.heap.size + 1) (by simp))
  dsimp only [tV] at HST ⊢
  have HV : Hid (validF g t = decide ((sortF g t).2 = 0)) := Lib.hid rfl
  rw [HV.out]
  generalize sortF g t = F at *
  have hb : (F.2 == 0) = decide (F.2 = 0) := by rw [Bool.eq_iff_iff, beq_iff_eq, decide_eq_true_eq]
  have HBB := Lib.hid hb
  clear hb HV
  have c0 := cellRow HBG.out 0 (.slice sa g.1.length sc) rfl
  have c1 := cellRow HBG.out 1 (.slice oa g.2.length oc) rfl
  have t0 := cellRow HBT.out 0 (.string t.name) rfl
  have t1 := cellRow HBT.out 1 (.string t.sort) rfl
  have t2 := cellRow HBT.out 2 (.slice a t.kids.length cap) rfl
  go_enter Tryz.func31, Tryz.ntmps31
  go_wp2_with fail
  refine (HST.out _ HZ.out).mono ?_
  rintro e w4 ⟨rfl, hw4⟩
  have H4 := Lib.hid (HZ.out.trans hw4)
  clear hw4 c0 c1 t0 t1 t2
  go_wp2_with fail
  go_ret
  exact ⟨rfl, H4.out⟩
set_option maxRecDepth 100000 in
set_option maxHeartbeats 2000000 in
theorem rvars_x (t : Tm) (u : Value) (T : Nat → Prop) (w : World) (hT : TmR T w t u) (hw : wf nmB t = true) : Calls Tryz.prog 32 #[u] w fun e w' => ∃ r, e = .returned r ∧ FiR (fun k => False ∨ w.heap.size ≤ k) w' r (varsT t) ∧ Ext w w' := by
  have hv : (vFold [] (vl (sbts t))).2 = true := by
    rw [varsT_ok]
    unfold wf at hw
    rw [Bool.and_eq_true] at hw
    exact hw.2
  have HVX := Lib.hid (fun W (hW : Ext w W) => vars_x t [] (.slice none 0 0) u (fun _ => False) T W (hT.ext hW) (SlR.nil _ _ 2) (formed_VL (wf_formed hw)) (by have := wf_size hw; show 0 + t.size ≤ 100000; omega))
  have HVV := Lib.hid hv
  obtain ⟨a, cap, rfl, _⟩ := hT
  have HZ := Lib.hid ((Upd.refl (fun _ => False) w).alloc (.cells #[.string t.name, .string t.sort, .slice a t.kids.length cap] 25))
  have HB := Lib.hid (alloc0 w (.cells #[.string t.name, .string t.sort, .slice a t.kids.length cap] 25))
  dsimp only [tV] at HVX ⊢
  have t0 := cellRow HB.out 0 (.string t.name) rfl
  have t1 := cellRow HB.out 1 (.string t.sort) rfl
  have t2 := cellRow HB.out 2 (.slice a t.kids.length cap) rfl
  rw [hv] at HVX
  have HVT : Hid ((vFold [] (vl (sbts t))).1 = varsT t) := Lib.hid rfl
  rw [HVT.out] at HVX
  generalize varsT t = L at *
  clear hv hw
  go_enter Tryz.func32, Tryz.ntmps32
  go_wp2_with fail
  refine (HVX.out _ HZ.out).mono ?_
  rintro e w4 ⟨r, rfl, hr, hw4⟩
  have H4 := Lib.hid (HZ.out.trans hw4)
  have HR : Hid (FiR (fun k => False ∨ w.heap.size ≤ k) w4 r L) := Lib.hid ((hr (by simp)).weaken (fun k hk => hk.elim .inl (fun h => .inr (Nat.le_trans HZ.out.size h))))
  obtain ⟨ra, rc, hrv⟩ := HR.out.shape
  subst hrv
  clear hr hw4 t0 t1 t2
  go_wp2_with fail
  go_ret
  exact ⟨_, rfl, HR.out, H4.out⟩

end Go.Proofs.YtiimccogojkldaaGreatDoor

/- Signatures as they come in. -/
namespace Go.Proofs.YtiimccogojkldaaGreatDoor
open Go.RowKit Go.Hw
set_option linter.unusedVariables false
set_option linter.unusedSimpArgs false

open Go.ChangeShapes Go.WideShapes Go.Deep Go.Joins Go.ChangeAt Tm
set_option maxRecDepth 100000
theorem cells102 : Tryz.prog.cellsOf 102 = 3 := by kernel_rfl
theorem cells22 : Tryz.prog.cellsOf 22 = 1 := by kernel_rfl
theorem cells56 : Tryz.prog.cellsOf 56 = 1 := by kernel_rfl
theorem cells58 : Tryz.prog.cellsOf 58 = 2 := by kernel_rfl
/-- a declaration with the slice of its parts -/
abbrev Du := Dc × Value
def duCells (p : Du) : List Value := [.string p.1.1, p.2, .string p.1.2.2]
def DuOk (W : World) (p : Du) : Prop := StrR (fun b => b < W.heap.size) W p.2 p.1.2.1
theorem du_cells : ∀ l : List Du, l.flatMap duCells = dCells (l.map (·.1)) (l.map (·.2))
  | [] => rfl
  | p :: l => by
    rw [List.flatMap_cons, du_cells l]
    rfl
theorem du_list {W : World} {l : List Du} {v : Value} (h : SlR (fun b => b < W.heap.size) W 3 v l.length (l.flatMap duCells)) (hR : ∀ p ∈ l, DuOk W p) : DcR (fun b => b < W.heap.size) W v (l.map (·.1)) := by
  rw [du_cells] at h
  refine ⟨l.map (·.2), by rw [List.length_map]; exact h, fun i hi => ?_⟩
  rw [List.length_map] at hi
  have h1 := hR _ (List.getElem_mem hi)
  unfold DuOk at h1
  have e1 : dg (l.map (·.1)) i = (l[i]).1 := by unfold dg; simp [hi]
  have e2 : ug (l.map (·.2)) i = (l[i]).2 := by unfold ug; simp [hi]
  rw [e1, e2]
  exact h1
section
variable {H : Type} {enc : TypeId × Value → H} {W : World}
theorem strs_of (fuel : Nat) {held : Bool} (v : Value) (y : DataW H × List MemPlace) (h : trd enc W held fuel 22 [v] = some y) : ∃ l : List By, StrR (fun b => b < W.heap.size) W v l := by
  haveI : Inhabited By := ⟨nul⟩
  obtain ⟨l, hl, hm, hR⟩ := open_sl (α := By) (fun s => [.string s]) (fun _ => True) Tryz.underlying22 cells9 (fun _ => rfl) (by decide) (fun n' cs' y' hn h' => by
    obtain ⟨s0, e0, _, _⟩ := DataW.trod_string Tryz.underlying9 h'
    exact ⟨s0, e0, trivial⟩) h
  refine ⟨l, ?_⟩
  have e : l.flatMap (fun s => [Value.string s]) = l.map Value.string := flat_one _ l
  unfold StrR
  rw [← e]
  exact hl
theorem decl_of (fuel : Nat) {held : Bool} (cs : List Value) (y : DataW H × List MemPlace) (h : trd enc W held fuel 102 cs = some y) : ∃ p : Du, cs = duCells p ∧ DuOk W p := by
  obtain ⟨xs, n, hfu, hx, hcl, hxl, hf⟩ := DataW.trod_struct Tryz.underlying102 h
  rw [cells102] at hcl
  match cs, hcl, xs, hxl with
  | [v0, v1, v2], _, [y0, y1, y2], _ =>
    have g0 := hf 0 _ rfl
    have g1 := hf 1 _ rfl
    have g2 := hf 2 _ rfl
    simp [cells9, cells22] at g0 g1 g2
    obtain ⟨s0, e0, _, _⟩ := DataW.trod_string Tryz.underlying9 g0
    obtain ⟨s2, e2, _, _⟩ := DataW.trod_string Tryz.underlying9 g2
    simp only [List.cons.injEq, and_true] at e0 e2
    subst e0; subst e2
    obtain ⟨l, hl⟩ := strs_of _ _ _ g1
    exact ⟨((s0, l, s2), v1), rfl, hl⟩
theorem open_sg {r : Reach} {b0 : Nat} {v : Value} {d : DataW H} {ps : List MemPlace} (hv : Value.okWide Tryz.prog W r b0 58 v) (h : DataW.Trod enc Tryz.prog W 0 (fun _ => true) true 58 v d ps) : ∃ g : Sg, SgR (fun b => b < W.heap.size) W g v := by
  obtain ⟨v0, v1, y0, y1, n, rfl, _, _, h0, h1⟩ := open_agg2 Tryz.underlying58 (by kernel_rfl) cells58 hv h
  obtain ⟨l, hl⟩ := strs_of _ _ _ h0
  haveI : Inhabited Du := ⟨((nul, [], nul), nilS)⟩
  obtain ⟨ds, hd, _, hR⟩ := open_sl (α := Du) duCells (DuOk W) Tryz.underlying56 cells102 (fun _ => rfl) (by decide) (fun n' cs' y' hn h' => decl_of n' cs' y' h') h1
  have hD := du_list hd hR
  obtain ⟨sa, sc, e0⟩ := SlR.shape hl
  obtain ⟨oa, oc, e1⟩ := hD.shape
  subst e0; subst e1
  exact ⟨(l, ds.map (·.1)), sa, sc, oa, oc, rfl, hl, hD⟩
end

end Go.Proofs.YtiimccogojkldaaGreatDoor
