/- The texts I73 I80 I81, one behind the other. -/
import Derived.Test.YtjjaknmnhhfjeaaGreatDoorKAL
import Derived.Deep.DeepCutAuto
import Derived.Test.YtjjaknmnhhfjeaaGreatDoorKAF
import Derived.Test.YtjjaknmnhhfjeaaGreatDoorKAK
/- Replace. -/
namespace Go.Proofs.YtjjaknmnhhfjeaaGreatDoor
open Go.RowKit Go.Hw Go
set_option linter.unusedVariables false
set_option linter.unusedSimpArgs false

open Tm
theorem AdrP.ext {w w' : World} (hE : Ext w w') : ∀ {p : List Nat} {a a' : Nat × Nat}, AdrP w p a a' → AdrP w' p a a'
  | [], _, _, h => h
  | i :: p, a, a', ⟨g, off, n, c, h1, h2⟩ => ⟨g, off, n, c, hE.cell h1 (fun h => h), AdrP.ext hE h2⟩
end Go.Proofs.YtjjaknmnhhfjeaaGreatDoor

/- find, Find, Own of the reference. -/
namespace Go.Proofs.YtjjaknmnhhfjeaaGreatDoor
open Go.RowKit Go.Hw Go
set_option linter.unusedVariables false
set_option linter.unusedSimpArgs false

open Tm
set_option maxRecDepth 100000 in
set_option maxHeartbeats 2000000 in
theorem find_x2 (l : List By) (s : By) (v : Value) (S : Nat → Prop) (w : World) (hR : StR S w v l) (hlc : l.length ≤ 1000000) : Calls Tryz.prog 74 #[v, .string s] w fun e w' => e = .returned (.int .i64 (ixI l s)) ∧ w' = w := by
  have HR := Lib.hid hR
  obtain ⟨a, cap, rfl⟩ := SlR.shape hR
  clear hR
  go_enter Tryz.func74, Tryz.ntmps74
  go_wp2_with fail
  go_loopg [5] l.length (fun gk iv wr => ∃ k : Nat, iv = .int .i64 (k : Int) ∧ gk = l.length - k ∧ k ≤ l.length ∧ Hid (∀ j, j < k → bg l j ≠ s) ∧ wr = w)
  case atStart => exact ⟨0, rfl, rfl, Nat.zero_le _, Lib.hid (fun j h => absurd h (Nat.not_lt_zero _)), rfl⟩
  case round =>
    obtain ⟨k, rfl, rfl, hk, HC, rfl⟩ := hrel
    by_cases hlt : k < l.length
    · obtain ⟨g, off, rfl, _, hat⟩ := StR.at_ HR.out (by omega)
      have q0 := hat k hlt
      have z0 : (0 : Int) ≤ (k : Int) := by omega
      have z1 : (k : Int) < (l.length : Int) := by omega
      have z2 : decide ((k : Int) < (l.length : Int)) = true := decide_eq_true z1
      have z2' : decide (k < l.length) = true := decide_eq_true hlt
      clear hat
      obtain ⟨x, hx⟩ : ∃ x, bg l k = x := ⟨_, rfl⟩
      have HX := Lib.hid hx
      rw [hx] at q0
      clear hx
      by_cases he : x = s
      · subst he
        have HV : Hid (ixI l x = (k : Int)) := Lib.hid (by
          have h1 := ixF_of hlt (fun j hj => HC.out j hj) HX.out
          unfold ixI
          rw [if_pos (mem_ix.2 (by rw [h1]; exact hlt)), h1])
        go_wp2_with fail
        go_ret
        rw [HV.out]
        exact ⟨rfl, rfl⟩
      · have t1 := str_ne he
        have HN : Hid (∀ j, j < k + 1 → bg l j ≠ s) := Lib.hid (fun j hj => by
          rcases Nat.lt_succ_iff_lt_or_eq.1 hj with h5 | h5
          · exact HC.out j h5
          · rw [h5, HX.out]; exact he)
        clear he
        go_wp2_with fail
        go_roundg (l.length - (k + 1))
        case measure => omega
        case rel => exact ⟨k + 1, by go_num, rfl, by omega, HN, rfl⟩
    · obtain rfl : k = l.length := by omega
      have HV : Hid (ixI l s = -1) := Lib.hid (by
        unfold ixI
        rw [if_neg (fun h => by
          have h1 := ixF_lt h
          rw [ixF_none (fun j hj => HC.out j hj)] at h1
          exact Nat.lt_irrefl _ h1)])
      have z2 : decide ((l.length : Int) < (l.length : Int)) = false := decide_eq_false (by omega)
      go_wp2_with fail
      go_ret
      rw [HV.out]
      exact ⟨rfl, rfl⟩
theorem find_e2 (l : List By) (s : By) (v : Value) (S : Nat → Prop) (w : World) (hR : StR S w v l) (hlc : l.length ≤ 1000000) : Calls Tryz.prog 74 #[v, .string s] w fun e w' => e = .returned (.int .i64 (ixI l s)) ∧ Ext w w' := (find_x2 l s v S w hR hlc).mono fun e w' h => ⟨h.1, h.2 ▸ Upd.refl _ _⟩
set_option maxRecDepth 100000 in
set_option maxHeartbeats 2000000 in
theorem dfind_x (g : Sg) (s : By) (v : Value) (S : Nat → Prop) (w : World) (hG : SgR S w g v) (hl : g.2.length ≤ 1000000) : Calls Tryz.prog 75 #[v, .string s] w fun e w' => e = .returned (.int .i64 (dixI g.2 s)) ∧ Ext w w' := by
  obtain ⟨sa, sc, oa, oc, rfl, _, hD⟩ := hG
  have HD := Lib.hid hD
  have HZ := Lib.hid ((Upd.refl (fun _ => False) w).alloc (.cells #[.slice sa g.1.length sc, .slice oa g.2.length oc] 42))
  have HB := Lib.hid (alloc0 w (.cells #[.slice sa g.1.length sc, .slice oa g.2.length oc] 42))
  have c1 := cellRow HB.out 1 (.slice oa g.2.length oc) rfl
  obtain ⟨V, hV⟩ : ∃ V, dixI g.2 s = V := ⟨_, rfl⟩
  rw [hV]
  have HV := Lib.hid hV
  clear hD hV
  go_enter Tryz.func75, Tryz.ntmps75
  go_wp2_with fail
  generalize w.alloc (.cells #[.slice sa g.1.length sc, .slice oa g.2.length oc] 42) = w1 at *
  clear c1
  go_loopg [5] g.2.length (fun gk iv wr => ∃ k : Nat, iv = .int .i64 (k : Int) ∧ gk = g.2.length - k ∧ k ≤ g.2.length ∧ Hid (∀ j, j < k → (dg g.2 j).1 ≠ s) ∧ w1 = wr)
  case atStart => exact ⟨0, rfl, rfl, Nat.zero_le _, Lib.hid (fun j h => absurd h (Nat.not_lt_zero _)), rfl⟩
  case round =>
    obtain ⟨k, rfl, rfl, hk, HC, rfl⟩ := hrel
    have c1 := cellRow HB.out 1 (.slice oa g.2.length oc) rfl
    by_cases hlt : k < g.2.length
    · obtain ⟨gg, off, hga, _, hat⟩ := (HD.out.ext HZ.out).at_ (by omega)
      subst hga
      obtain ⟨xa, xc, q0, q1, q2, _⟩ := hat k hlt
      have z0 : (0 : Int) ≤ (k : Int) := by omega
      have z1 : (k : Int) < (g.2.length : Int) := by omega
      have z2 : decide ((k : Int) < (g.2.length : Int)) = true := decide_eq_true z1
      have z2' : decide (k < g.2.length) = true := decide_eq_true hlt
      clear hat q1 q2
      obtain ⟨x, hx⟩ : ∃ x, (dg g.2 k).1 = x := ⟨_, rfl⟩
      have HX := Lib.hid hx
      rw [hx] at q0
      clear hx
      by_cases he : x = s
      · subst he
        have HV2 : Hid (V = (k : Int)) := Lib.hid (by
          have h1 := dixN_of hlt (fun j hj => HC.out j hj) HX.out
          rw [← HV.out]
          unfold dixI
          rw [h1, if_pos hlt])
        go_wp2_with fail
        go_ret
        rw [HV2.out]
        exact ⟨rfl, HZ.out⟩
      · have t1 := str_ne he
        have HN : Hid (∀ j, j < k + 1 → (dg g.2 j).1 ≠ s) := Lib.hid (fun j hj => by
          rcases Nat.lt_succ_iff_lt_or_eq.1 hj with h5 | h5
          · exact HC.out j h5
          · rw [h5, HX.out]; exact he)
        clear he
        go_wp2_with fail
        go_roundg (g.2.length - (k + 1))
        case measure => omega
        case rel => exact ⟨k + 1, by go_num, rfl, by omega, HN, rfl⟩
    · obtain rfl : k = g.2.length := by omega
      have HV2 : Hid (V = -1) := Lib.hid (by
        rw [← HV.out]
        unfold dixI
        rw [if_neg (dixN_none (fun j hj => HC.out j hj))])
      have z2 : decide ((g.2.length : Int) < (g.2.length : Int)) = false := decide_eq_false (by omega)
      go_wp2_with fail
      go_ret
      rw [HV2.out]
      exact ⟨rfl, HZ.out⟩
end Go.Proofs.YtjjaknmnhhfjeaaGreatDoor

/- wrong of the reference. -/
namespace Go.Proofs.YtjjaknmnhhfjeaaGreatDoor
open Go.RowKit Go.Hw Go
set_option linter.unusedVariables false
set_option linter.unusedSimpArgs false

open Tm
end Go.Proofs.YtjjaknmnhhfjeaaGreatDoor
