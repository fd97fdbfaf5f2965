/- The choice of a code, in the reference. -/
import Derived.Test.YthpekfpeoglbgaaW9
namespace Go.Proofs.Ythpekfpeoglbgaa
open Go.RowKit Go.Hw
set_option linter.unusedVariables false
set_option linter.unusedSimpArgs false

theorem sum_take_bd (ws : List Int) (h : ∀ x ∈ ws, 0 ≤ x ∧ x ≤ 2000) (j : Nat) : 0 ≤ (ws.take j).sum ∧ (ws.take j).sum ≤ 2000 * (ws.take j).length := by
  have h2 : ∀ x ∈ ws.take j, 0 ≤ x ∧ x ≤ 2000 := fun x hx => h x (List.mem_of_mem_take hx)
  exact ⟨sum_nonneg _ (fun x hx => (h2 x hx).1), sum_le _ h2⟩
set_option maxHeartbeats 1000000 in
/-- heartwoodref51.code -/
theorem rcode_any (S : Nat → Prop) (p : Prof) (wv : Value) (n : Int) (w : World) (h : NumR S w wv p.ws) (hw : ∀ x ∈ p.ws, 0 ≤ x ∧ x ≤ 2000) (hs : 0 < p.ws.sum) (hl : p.ws.length ≤ 1000) (h0 : 0 ≤ n) (hn : n ≤ 2147483647) :
    Calls Try.prog 40 #[.agg #[.int .i64 p.kind, wv, .int .i64 p.low, .int .i64 p.high], .int .i64 n] w fun e w' => e = .returned (.int .i64 ((pick p.ws (n % p.ws.sum) : Int) + 1)) ∧ Ext w w' := by
  obtain ⟨a, cap, hv⟩ := h.shape
  subst hv
  have hu : Ext w (w.alloc (.cells #[.int .i64 p.kind, .slice a p.ws.length cap, .int .i64 p.low, .int .i64 p.high] 24)) := (Upd.refl _ w).alloc _
  have HN := Lib.hid (h.kept hu (fun _ _ h => h))
  have HU := Lib.hid hu
  have HB : Hid ((w.alloc (.cells #[.int .i64 p.kind, .slice a p.ws.length cap, .int .i64 p.low, .int .i64 p.high] 24)).heap[w.heap.size]? = some (.cells #[.int .i64 p.kind, .slice a p.ws.length cap, .int .i64 p.low, .int .i64 p.high] 24)) := alloc0 _ _
  clear h hu
  generalize p.ws = ws at *
  have HW := Lib.hid hw
  have Hsb := Lib.hid (sum_take_bd ws hw)
  have hm0 : 0 ≤ n % ws.sum := Int.emod_nonneg _ (by omega)
  have hm1 : n % ws.sum < ws.sum := Int.emod_lt_of_pos _ hs
  obtain ⟨R, hR⟩ : ∃ R, R = (pick ws (n % ws.sum) : Int) + 1 := ⟨_, rfl⟩
  rw [← hR]
  have HR := Lib.hid hR
  have Hm0 : Hid (0 ≤ n % ws.sum) := hm0
  have Hm1 : Hid (n % ws.sum < ws.sum) := hm1
  obtain ⟨sm, hsm⟩ : ∃ sm, sm = ws.sum := ⟨_, rfl⟩
  have HSM := Lib.hid hsm
  rw [← hsm] at hs
  have hsb := sum_le ws hw
  rw [← hsm] at hsb
  clear hw hR hm0 hm1 hsm
  go_enter Try.func40, Try.ntmps40
  go_wp2_with fail
  generalize w.alloc (.cells #[.int .i64 p.kind, .slice a ws.length cap, .int .i64 p.low, .int .i64 p.high] 24) = w3 at *
  generalize w.heap.size = b at *
  have b1 : w3.cell? ⟨b, 1, none⟩ = some (.slice a ws.length cap) := cellRow HB.out 1 _ rfl
  go_loopg [5, 6] ws.length (fun gk s5 i wr => ∃ j : Nat, i = .int .i64 j ∧ s5 = .int .i64 (ws.take j).sum ∧ gk = ws.length - j ∧ j ≤ ws.length ∧ wr = w3)
  case atStart => exact ⟨0, rfl, rfl, rfl, Nat.zero_le _, rfl⟩
  case round =>
    obtain ⟨j, rfl, rfl, rfl, hj, rfl⟩ := hrel
    by_cases hlt : j < ws.length
    · obtain ⟨g, off, cap', hv, hc, hg, hcell⟩ := HN.out.pos (by omega)
      injection hv with e1 e2 e3
      subst e1; subst e3
      have hcel : wr.cell? ⟨g, off + j, none⟩ = some (.int .i64 (ws.getD j 0)) := by rw [hcell j (by omega), nums_get ws j hlt]
      have i0' : (0 : Int) ≤ (j : Int) := by omega
      have i1' : (j : Int) < (ws.length : Int) := by omega
      have Hst := Lib.hid (sum_take ws j hlt)
      have hx := HW.out _ (getD_mem0 hlt)
      have hy := Hsb.out j
      have hz : (ws.take j).length ≤ ws.length := by simp; omega
      generalize (ws.take j).sum = T1 at *
      generalize (ws.take j).length = T2 at *
      generalize ws.getD j 0 = X at *
      clear hcell hg hc e2
      go_wp2_with fail
      go_roundg (ws.length - (j + 1))
      case measure => omega
      case rel => exact ⟨j + 1, by go_num, by rw [Hst.out], rfl, by omega, rfl⟩
    · have hse : (ws.take j).sum = sm := by rw [List.take_of_length_le (by omega), HSM.out]
      rw [hse]
      have ht1 : (n % sm : Int) = n % sm := rfl
      clear hse
      go_wp2_with fail
      obtain ⟨wa, hwa⟩ : ∃ wa, wa = wr := ⟨_, rfl⟩
      subst hwa
      go_loopg [5, 7] ws.length (fun gk s5 i wr => ∃ j : Nat, i = .int .i64 j ∧ s5 = .int .i64 (ws.take j).sum ∧ gk = ws.length - j ∧ j ≤ ws.length ∧ wr = wa ∧ Hid (0 ≤ n % sm - (ws.take j).sum ∧ n % sm - (ws.take j).sum < (ws.drop j).sum ∧ pick ws (n % sm) = pick (ws.drop j) (n % sm - (ws.take j).sum) + j))
      case atStart => exact ⟨0, rfl, rfl, rfl, Nat.zero_le _, rfl, by have h1 := Hm0.out; have h2 := Hm1.out; rw [← HSM.out] at h1 h2; simp; rw [← HSM.out]; exact ⟨h1, h2⟩⟩
      case round =>
        obtain ⟨j, rfl, rfl, rfl, hj, rfl, Hj⟩ := hrel
        have hlt := drop_pos ws j _ Hj.out.1 Hj.out.2.1
        obtain ⟨g, off, cap', hv, hc, hg, hcell⟩ := HN.out.pos (by omega)
        injection hv with e1 e2 e3
        subst e1; subst e3
        have hcel : wr.cell? ⟨g, off + j, none⟩ = some (.int .i64 (ws.getD j 0)) := by rw [hcell j (by omega), nums_get ws j hlt]
        have i0' : (0 : Int) ≤ (j : Int) := by omega
        have i1' : (j : Int) < (ws.length : Int) := by omega
        have Hst := Lib.hid (sum_take ws j hlt)
        have Hsd := Lib.hid (sum_drop ws j hlt)
        have Hpd := Lib.hid (pick_drop ws j (n % sm - (ws.take j).sum) hlt)
        have hx := HW.out _ (getD_mem0 hlt)
        have hy := Hsb.out j
        have hz : (ws.take j).length ≤ ws.length := by simp; omega
        generalize (ws.take j).length = T2 at *
        generalize hT1 : (ws.take j).sum = T1 at *
        clear hT1
        generalize ws.getD j 0 = X at *
        clear hcell hg hc e2
        generalize hNS : n % sm = NS at *
        by_cases hgt : NS < T1 + X
        · have hr : R = (j : Int) + 1 := by
            have h3 := Hj.out.2.2
            rw [Hpd.out, if_pos (by omega)] at h3
            rw [HR.out, ← HSM.out, hNS, h3]; simp
          subst hr
          have HNS := Lib.hid hNS
          clear hNS HR Hpd Hsd Hst Hj
          go_wp2_with fail
          go_ret
          exact ⟨rfl, HU.out⟩
        · have HNS := Lib.hid hNS
          clear hNS
          have Hj2 : Hid (0 ≤ NS - (ws.take (j + 1)).sum ∧ NS - (ws.take (j + 1)).sum < (ws.drop (j + 1)).sum ∧ pick ws NS = pick (ws.drop (j + 1)) (NS - (ws.take (j + 1)).sum) + (j + 1 : Nat)) := by
            obtain ⟨q1, q2, q3⟩ := Hj.out
            have s1 := Hst.out
            have s2 := Hsd.out
            have s3 := Hpd.out
            rw [if_neg (by omega)] at s3
            rw [show NS - (ws.take (j + 1)).sum = NS - T1 - X by omega]
            refine ⟨by omega, by omega, ?_⟩
            rw [q3, s3]; omega
          clear Hj Hpd Hsd
          go_wp2_with fail
          go_roundg (ws.length - (j + 1))
          case measure => omega
          case rel => exact ⟨j + 1, by go_num, by rw [Hst.out], rfl, by omega, rfl, Hj2⟩

end Go.Proofs.Ythpekfpeoglbgaa
