/- The texts I6 I7 I8, one behind the other. -/
import Derived.Test.YtjjaknmnhhfjeaaGreatDoorKAI
import Derived.Test.YtjjaknmnhhfjeaaGreatDoorKAB
import Derived.Sort.Walk0
import Derived.Laws.Cover1
/- Size, and Small of the reference. -/
namespace Go.Proofs.YtjjaknmnhhfjeaaGreatDoor
open Go.RowKit Go.Hw Go
set_option linter.unusedVariables false
set_option linter.unusedSimpArgs false

open Tm
set_option maxRecDepth 100000 in
set_option maxHeartbeats 2000000 in
theorem Size_x (t : Tm) (v : Value) (w : World) (htab : AscT w) (hR : TmR (fun k => k < w.heap.size) w t v) (hsz : (t.size : Int) ≤ 1000000000000) : Calls Tryz.prog 38 #[v] w fun e w' => e = .returned (.int .i64 (szF t : Nat)) ∧ Ext w w' := by
  have HR := Lib.hid hR
  obtain ⟨a, cap, rfl, hT⟩ := hR
  dsimp only [tV]
  have HZ := Lib.hid ((Upd.refl (fun _ => False) w).alloc (.cells #[.string t.name, .string t.sort, .slice a t.kids.length cap] 24))
  have hb := alloc0 w (.cells #[.string t.name, .string t.sort, .slice a t.kids.length cap] 24)
  have HF := Lib.hid (fun W (hW : Ext w W) => size_x t _ W (asc_ext htab hW) ((HR.out.ext hW).weaken (fun k hk => Nat.lt_of_lt_of_le hk hW.size)) hsz)
  dsimp only [tV] at HF
  have c0 := cellRow hb 0 (.string t.name) rfl
  have c1 := cellRow hb 1 (.string t.sort) rfl
  have c2 := cellRow hb 2 (.slice a t.kids.length cap) rfl
  clear hT hb
  generalize szF t = X at *
  generalize dpF t = Y at *
  go_enter Tryz.func38, Tryz.ntmps38
  go_wp2_with fail
  refine (HF.out _ HZ.out).mono ?_
  rintro e w4 ⟨rfl, hw4⟩
  have H4 := Lib.hid (HZ.out.ext hw4)
  clear hw4 c0 c1 c2
  go_wp2_with fail
  go_ret
  exact ⟨rfl, H4.out⟩
end Go.Proofs.YtjjaknmnhhfjeaaGreatDoor

/- Compare of the reference. -/
namespace Go.Proofs.YtjjaknmnhhfjeaaGreatDoor
open Go.RowKit Go.Hw Go
set_option linter.unusedVariables false
set_option linter.unusedSimpArgs false

open Tm
theorem bless (x y : ByteArray) : Op.bytesLess x.toList y.toList = blt x y := by
  unfold blt
  rw [bytesLess_eq, Lib.toList_data, Lib.toList_data]
set_option maxRecDepth 100000 in
set_option maxHeartbeats 2000000 in
theorem order_x (x y : ByteArray) (w : World) : Calls Tryz.prog 84 #[.string x, .string y] w fun e w' => e = .returned (.int .i64 (bcmp x y)) ∧ Ext w w' := by
  have hrf := Lib.hid (Upd.refl (fun _ => False) w)
  have t1 := bless x y
  have t2 := bless y x
  have hb : bcmp x y = if blt x y = true then -1 else if blt y x = true then 1 else 0 := rfl
  generalize bcmp x y = Z at *
  cases h1 : blt x y
  · rw [h1] at t1 hb
    cases h2 : blt y x
    · rw [h2] at t2 hb
      have hz : Z = 0 := hb
      subst hz
      have hxy : x = y := by
        by_cases e : x = y
        · exact e
        · rcases blt_tri x y e with h3 | h3
          · rw [h3] at h1; cases h1
          · rw [h3] at h2; cases h2
      have t3 : (x.toList == y.toList) = true := by rw [hxy]; simp
      clear hb h1 h2 hxy
      go_enter Tryz.func84, Tryz.ntmps84
      go_wp2_with fail
      go_ret
      exact ⟨rfl, hrf.out⟩
    · rw [h2] at t2 hb
      have hz : Z = 1 := hb
      subst hz
      have t3 : (x.toList == y.toList) = false := by
        rw [beq_eq_false_iff_ne]
        intro e
        have hxy : x = y := ba_list (by rw [Lib.toList_data, Lib.toList_data] at e; exact e)
        rw [hxy, blt_irrefl] at h2
        cases h2
      clear hb h1 h2
      go_enter Tryz.func84, Tryz.ntmps84
      go_wp2_with fail
      go_ret
      exact ⟨rfl, hrf.out⟩
  · rw [h1] at t1 hb
    have hz : Z = -1 := hb
    subst hz
    clear hb h1
    go_enter Tryz.func84, Tryz.ntmps84
    go_wp2_with fail
    go_ret
    exact ⟨rfl, hrf.out⟩
set_option maxRecDepth 100000 in
set_option maxHeartbeats 2000000 in
theorem compare_x : ∀ (t u : Tm) (v v' : Value) (S T : Nat → Prop) (w : World), TmR S w t v → TmR T w u v' → t.size ≤ 1000000 →
    Calls Tryz.prog 32 #[v, v'] w fun e w' => e = .returned (.int .i64 (cmpT t u)) ∧ Ext w w' := by
  refine Tm.ind (fun n s L ih => ?_)
  intro u v v' S T w hR hR' hsz
  obtain ⟨m, r, M⟩ := u
  obtain ⟨aa, ca, rfl, hT⟩ := hR
  obtain ⟨ab, cb, rfl, hT'⟩ := hR'
  dsimp only [tV, Tm.name, Tm.sort, Tm.kids] at hT hT' ⊢
  have HTL := Lib.hid (And.intro hT hT')
  have HIH := Lib.hid ih
  clear ih hT hT'
  have HZ := Lib.hid (((Upd.refl (fun _ => False) w).alloc (.cells #[.string n, .string s, .slice aa L.length ca] 24)).alloc (.cells #[.string m, .string r, .slice ab M.length cb] 24))
  have HA := Lib.hid (allocOld (alloc0 w (.cells #[.string n, .string s, .slice aa L.length ca] 24)) (.cells #[.string m, .string r, .slice ab M.length cb] 24))
  have HB := Lib.hid (alloc_at (w.alloc (.cells #[.string n, .string s, .slice aa L.length ca] 24)) (.cells #[.string m, .string r, .slice ab M.length cb] 24) (n := w.heap.size + 1) (by simp))
  have HO1 := Lib.hid (fun W => order_x n m W)
  have HO2 := Lib.hid (fun W => order_x s r W)
  have ha0 := (Upd.refl (fun _ => False) _).heap HA.out (fun h => h)
  have hb0 := (Upd.refl (fun _ => False) _).heap HB.out (fun h => h)
  have a0 := cellRow ha0 0 (.string n) rfl
  have a1 := cellRow ha0 1 (.string s) rfl
  have a2 := cellRow ha0 2 (.slice aa L.length ca) rfl
  have b0 := cellRow hb0 0 (.string m) rfl
  have b1 := cellRow hb0 1 (.string r) rfl
  have b2 := cellRow hb0 2 (.slice ab M.length cb) rfl
  clear ha0 hb0
  have HEQ := Lib.hid (cmpT_eq n s L m r M)
  by_cases hs : s.size = 0
  · have hse := empty_is _ hs
    by_cases hr : r.size = 0
    · have hre := empty_is _ hr
      subst hse hre
      rw [if_neg (by simp)] at HEQ
      by_cases h1 : bcmp n m = 0
      rotate_left
      · have t1 : (bcmp n m != 0) = true := by simpa using h1
        have t1' : decide (bcmp n m = 0) = false := decide_eq_false h1
        have hv : cmpT (.mk n ⟨#[]⟩ L) (.mk m ⟨#[]⟩ M) = bcmp n m := by rw [HEQ.out, if_pos h1]
        rw [hv]
        clear hv h1 HEQ
        generalize bcmp n m = Z at *
        go_enter Tryz.func32, Tryz.ntmps32
        go_wp2_with fail
        refine (HO1.out _).mono ?_
        rintro e w4 ⟨rfl, hw4⟩
        have H4 := Lib.hid (hw4)
        clear hw4
        clear a0 a1 a2 b0 b1 b2
        have ha4 := H4.out.heap HA.out (fun h => h)
        have hb4 := H4.out.heap HB.out (fun h => h)
        have a0 := cellRow ha4 0 (.string n) rfl
        have a1 := cellRow ha4 1 (.string ⟨#[]⟩) rfl
        have a2 := cellRow ha4 2 (.slice aa L.length ca) rfl
        have b0 := cellRow hb4 0 (.string m) rfl
        have b1 := cellRow hb4 1 (.string ⟨#[]⟩) rfl
        have b2 := cellRow hb4 2 (.slice ab M.length cb) rfl
        clear ha4 hb4
        go_wp2_with fail
        go_ret
        exact ⟨rfl, HZ.out.ext H4.out⟩
      rw [if_neg (by simp [h1])] at HEQ
      rw [h1] at HO1
      clear h1
      by_cases h2 : bcmp ⟨#[]⟩ ⟨#[]⟩ = 0
      rotate_left
      · have t1 : (bcmp ⟨#[]⟩ ⟨#[]⟩ != 0) = true := by simpa using h2
        have t1' : decide (bcmp ⟨#[]⟩ ⟨#[]⟩ = 0) = false := decide_eq_false h2
        have hv : cmpT (.mk n ⟨#[]⟩ L) (.mk m ⟨#[]⟩ M) = bcmp ⟨#[]⟩ ⟨#[]⟩ := by rw [HEQ.out, if_pos h2]
        rw [hv]
        clear hv h2 HEQ
        generalize bcmp ⟨#[]⟩ ⟨#[]⟩ = Z at *
        go_enter Tryz.func32, Tryz.ntmps32
        go_wp2_with fail
        refine (HO1.out _).mono ?_
        rintro e w4 ⟨rfl, hw4⟩
        have H4 := Lib.hid (hw4)
        clear hw4
        clear a0 a1 a2 b0 b1 b2
        have ha4 := H4.out.heap HA.out (fun h => h)
        have hb4 := H4.out.heap HB.out (fun h => h)
        have a0 := cellRow ha4 0 (.string n) rfl
        have a1 := cellRow ha4 1 (.string ⟨#[]⟩) rfl
        have a2 := cellRow ha4 2 (.slice aa L.length ca) rfl
        have b0 := cellRow hb4 0 (.string m) rfl
        have b1 := cellRow hb4 1 (.string ⟨#[]⟩) rfl
        have b2 := cellRow hb4 2 (.slice ab M.length cb) rfl
        clear ha4 hb4
        go_wp2_with fail
        refine (HO2.out _).mono ?_
        rintro e w5 ⟨rfl, hw5⟩
        have H5 := Lib.hid (H4.out.ext hw5)
        clear hw5
        clear a0 a1 a2 b0 b1 b2
        have ha5 := H5.out.heap HA.out (fun h => h)
        have hb5 := H5.out.heap HB.out (fun h => h)
        have a0 := cellRow ha5 0 (.string n) rfl
        have a1 := cellRow ha5 1 (.string ⟨#[]⟩) rfl
        have a2 := cellRow ha5 2 (.slice aa L.length ca) rfl
        have b0 := cellRow hb5 0 (.string m) rfl
        have b1 := cellRow hb5 1 (.string ⟨#[]⟩) rfl
        have b2 := cellRow hb5 2 (.slice ab M.length cb) rfl
        clear ha5 hb5
        go_wp2_with fail
        go_ret
        exact ⟨rfl, HZ.out.ext H5.out⟩
      rw [if_neg (by simp [h2])] at HEQ
      rw [h2] at HO2
      clear h2
      by_cases h3 : L.length = M.length
      rotate_left
      · have u1 : ((L.length : Int) != (M.length : Int)) = true := by simp; omega
        have u1' : decide ((L.length : Int) = (M.length : Int)) = false := decide_eq_false (by omega)
        have u1'' : decide (L.length = M.length) = false := decide_eq_false h3
        rw [if_pos h3] at HEQ
        by_cases h4 : L.length < M.length
        · have u2 : decide ((L.length : Int) < (M.length : Int)) = true := decide_eq_true (by omega)
          have u2' : decide (L.length < M.length) = true := decide_eq_true h4
          have hv : cmpT (.mk n ⟨#[]⟩ L) (.mk m ⟨#[]⟩ M) = -1 := by rw [HEQ.out, if_pos h4]
          rw [hv]
          clear hv HEQ
          go_enter Tryz.func32, Tryz.ntmps32
          go_wp2_with fail
          refine (HO1.out _).mono ?_
          rintro e w4 ⟨rfl, hw4⟩
          have H4 := Lib.hid (hw4)
          clear hw4
          clear a0 a1 a2 b0 b1 b2
          have ha4 := H4.out.heap HA.out (fun h => h)
          have hb4 := H4.out.heap HB.out (fun h => h)
          have a0 := cellRow ha4 0 (.string n) rfl
          have a1 := cellRow ha4 1 (.string ⟨#[]⟩) rfl
          have a2 := cellRow ha4 2 (.slice aa L.length ca) rfl
          have b0 := cellRow hb4 0 (.string m) rfl
          have b1 := cellRow hb4 1 (.string ⟨#[]⟩) rfl
          have b2 := cellRow hb4 2 (.slice ab M.length cb) rfl
          clear ha4 hb4
          go_wp2_with fail
          refine (HO2.out _).mono ?_
          rintro e w5 ⟨rfl, hw5⟩
          have H5 := Lib.hid (H4.out.ext hw5)
          clear hw5
          clear a0 a1 a2 b0 b1 b2
          have ha5 := H5.out.heap HA.out (fun h => h)
          have hb5 := H5.out.heap HB.out (fun h => h)
          have a0 := cellRow ha5 0 (.string n) rfl
          have a1 := cellRow ha5 1 (.string ⟨#[]⟩) rfl
          have a2 := cellRow ha5 2 (.slice aa L.length ca) rfl
          have b0 := cellRow hb5 0 (.string m) rfl
          have b1 := cellRow hb5 1 (.string ⟨#[]⟩) rfl
          have b2 := cellRow hb5 2 (.slice ab M.length cb) rfl
          clear ha5 hb5
          go_wp2_with fail
          go_ret
          exact ⟨rfl, HZ.out.ext H5.out⟩
        · have u2 : decide ((L.length : Int) < (M.length : Int)) = false := decide_eq_false (by omega)
          have u2' : decide (L.length < M.length) = false := decide_eq_false h4
          have hv : cmpT (.mk n ⟨#[]⟩ L) (.mk m ⟨#[]⟩ M) = 1 := by rw [HEQ.out, if_neg h4]
          rw [hv]
          clear hv HEQ
          go_enter Tryz.func32, Tryz.ntmps32
          go_wp2_with fail
          refine (HO1.out _).mono ?_
          rintro e w4 ⟨rfl, hw4⟩
          have H4 := Lib.hid (hw4)
          clear hw4
          clear a0 a1 a2 b0 b1 b2
          have ha4 := H4.out.heap HA.out (fun h => h)
          have hb4 := H4.out.heap HB.out (fun h => h)
          have a0 := cellRow ha4 0 (.string n) rfl
          have a1 := cellRow ha4 1 (.string ⟨#[]⟩) rfl
          have a2 := cellRow ha4 2 (.slice aa L.length ca) rfl
          have b0 := cellRow hb4 0 (.string m) rfl
          have b1 := cellRow hb4 1 (.string ⟨#[]⟩) rfl
          have b2 := cellRow hb4 2 (.slice ab M.length cb) rfl
          clear ha4 hb4
          go_wp2_with fail
          refine (HO2.out _).mono ?_
          rintro e w5 ⟨rfl, hw5⟩
          have H5 := Lib.hid (H4.out.ext hw5)
          clear hw5
          clear a0 a1 a2 b0 b1 b2
          have ha5 := H5.out.heap HA.out (fun h => h)
          have hb5 := H5.out.heap HB.out (fun h => h)
          have a0 := cellRow ha5 0 (.string n) rfl
          have a1 := cellRow ha5 1 (.string ⟨#[]⟩) rfl
          have a2 := cellRow ha5 2 (.slice aa L.length ca) rfl
          have b0 := cellRow hb5 0 (.string m) rfl
          have b1 := cellRow hb5 1 (.string ⟨#[]⟩) rfl
          have b2 := cellRow hb5 2 (.slice ab M.length cb) rfl
          clear ha5 hb5
          go_wp2_with fail
          go_ret
          exact ⟨rfl, HZ.out.ext H5.out⟩
      rw [if_neg (by simp [h3])] at HEQ
      have u1 : ((L.length : Int) != (M.length : Int)) = false := by simp; omega
      have u1' : decide ((L.length : Int) = (M.length : Int)) = true := decide_eq_true (by omega)
      have u1'' : decide (L.length = M.length) = true := decide_eq_true h3
      have H3 := Lib.hid h3
      clear h3
      go_enter Tryz.func32, Tryz.ntmps32
      go_wp2_with fail
      refine (HO1.out _).mono ?_
      rintro e w4 ⟨rfl, hw4⟩
      have H4 := Lib.hid (hw4)
      clear hw4
      clear a0 a1 a2 b0 b1 b2
      have ha4 := H4.out.heap HA.out (fun h => h)
      have hb4 := H4.out.heap HB.out (fun h => h)
      have a0 := cellRow ha4 0 (.string n) rfl
      have a1 := cellRow ha4 1 (.string ⟨#[]⟩) rfl
      have a2 := cellRow ha4 2 (.slice aa L.length ca) rfl
      have b0 := cellRow hb4 0 (.string m) rfl
      have b1 := cellRow hb4 1 (.string ⟨#[]⟩) rfl
      have b2 := cellRow hb4 2 (.slice ab M.length cb) rfl
      clear ha4 hb4
      go_wp2_with fail
      refine (HO2.out _).mono ?_
      rintro e w5 ⟨rfl, hw5⟩
      have H5 := Lib.hid (H4.out.ext hw5)
      clear hw5
      clear a0 a1 a2 b0 b1 b2
      have ha5 := H5.out.heap HA.out (fun h => h)
      have hb5 := H5.out.heap HB.out (fun h => h)
      have a0 := cellRow ha5 0 (.string n) rfl
      have a1 := cellRow ha5 1 (.string ⟨#[]⟩) rfl
      have a2 := cellRow ha5 2 (.slice aa L.length ca) rfl
      have b0 := cellRow hb5 0 (.string m) rfl
      have b1 := cellRow hb5 1 (.string ⟨#[]⟩) rfl
      have b2 := cellRow hb5 2 (.slice ab M.length cb) rfl
      clear ha5 hb5
      go_wp2_with fail
      clear a0 a1 a2 b0 b1 b2
      have hlL : L.length ≤ 1000000 := by have h1 := length_le_sizes L; have h2 := hsz; rw [size_eq] at h2; exact Nat.le_trans h1 (Nat.le_of_succ_le h2)
      go_loopg [7] L.length (fun gk iv wr => ∃ k : Nat, iv = .int .i64 (k : Int) ∧ gk = L.length - k ∧ k ≤ L.length ∧ Hid (∀ j, j < k → cmpT (tg L j) (tg M j) = 0) ∧ Hid (Ext ((w.alloc (.cells #[.string n, .string ⟨#[]⟩, .slice aa L.length ca] 24)).alloc (.cells #[.string m, .string ⟨#[]⟩, .slice ab M.length cb] 24)) wr))
      case atStart => exact ⟨0, rfl, rfl, Nat.zero_le _, Lib.hid (fun j h => absurd h (Nat.not_lt_zero _)), H5⟩
      case round =>
        obtain ⟨k, rfl, rfl, hk, HC, HE⟩ := hrel
        have HEw := Lib.hid (HZ.out.ext HE.out)
        have haw := HE.out.heap HA.out (fun h => h)
        have hbw := HE.out.heap HB.out (fun h => h)
        have a0 := cellRow haw 0 (.string n) rfl
        have a1 := cellRow haw 1 (.string ⟨#[]⟩) rfl
        have a2 := cellRow haw 2 (.slice aa L.length ca) rfl
        have b0 := cellRow hbw 0 (.string m) rfl
        have b1 := cellRow hbw 1 (.string ⟨#[]⟩) rfl
        have b2 := cellRow hbw 2 (.slice ab M.length cb) rfl
        clear haw hbw
        by_cases hlt : k < L.length
        · have hltM : k < M.length := by have := H3.out; omega
          obtain ⟨g, off, rfl, _, hat⟩ := (HTL.out.1.ext HEw.out).at_ (by omega)
          obtain ⟨g', off', rfl, _, hat'⟩ := (HTL.out.2.ext HEw.out).at_ (by omega)
          obtain ⟨ka, kc, q0, q1, q2, hkid⟩ := hat k hlt
          obtain ⟨ka', kc', p0, p1, p2, hkid'⟩ := hat' k hltM
          have z0 : (0 : Int) ≤ (k : Int) := by omega
          have z1 : (k : Int) < (L.length : Int) := by omega
          have z2 : decide ((k : Int) < (L.length : Int)) = true := decide_eq_true z1
          have z2' : decide (k < L.length) = true := decide_eq_true hlt
          have z3 : (k : Int) < (M.length : Int) := by omega
          have hmem : tg L k ∈ L := by unfold tg; rw [List.getD_eq_getElem?_getD, List.getElem?_eq_getElem hlt]; exact List.getElem_mem hlt
          have hszk : (tg L k).size ≤ 1000000 := by have h1 := size_mem hmem; have h2 := hsz; rw [size_eq] at h2; exact Nat.le_trans h1 (Nat.le_of_succ_le h2)
          have HIX := Lib.hid (fun W (hW : Ext wr W) => HIH.out (tg L k) hmem (tg M k) _ _ S T W ⟨ka, kc, rfl, hkid.ext hW⟩ ⟨ka', kc', rfl, hkid'.ext hW⟩ hszk)
          have HOF := Lib.hid (cmps_of L M k H3.out hlt HC.out)
          have HNX := Lib.hid (fun h : cmpT (tg L k) (tg M k) = 0 => fun j (hj : j < k + 1) => by
            rcases Nat.lt_succ_iff_lt_or_eq.1 hj with h5 | h5
            · exact HC.out j h5
            · rw [h5]; exact h)
          dsimp only [tV] at HIX
          obtain ⟨R, hR⟩ : ∃ R, cmpT (tg L k) (tg M k) = R := ⟨_, rfl⟩
          rw [hR] at HIX
          have HRR := Lib.hid hR
          clear hR hmem hat hat' hkid hkid'
          obtain ⟨x, hx⟩ : ∃ x, tg L k = x := ⟨_, rfl⟩
          obtain ⟨y, hy⟩ : ∃ y, tg M k = y := ⟨_, rfl⟩
          rw [hx] at q0 q1 q2 HIX
          rw [hy] at p0 p1 p2 HIX
          clear hx hy hszk hltM
          rw [← Nat.add_assoc] at q1 q2 p1 p2
          have xq0 := fun x : XW wr => x.ext.cell q0 (fun h => h)
          have xq1 := fun x : XW wr => x.ext.cell q1 (fun h => h)
          have xq2 := fun x : XW wr => x.ext.cell q2 (fun h => h)
          have xp0 := fun x : XW wr => x.ext.cell p0 (fun h => h)
          have xp1 := fun x : XW wr => x.ext.cell p1 (fun h => h)
          have xp2 := fun x : XW wr => x.ext.cell p2 (fun h => h)
          have xa2 := fun x : XW wr => x.ext.cell a2 (fun h => h)
          have xb2 := fun x : XW wr => x.ext.cell b2 (fun h => h)
          have hrfs := Upd.refl (fun _ => False) wr
          clear q0 q1 q2 p0 p1 p2 a0 a1 b0 b1 b2
          go_wp2_with fail
          clear a2
          refine wp_region_ext wr (by assumption) (by kernel_rfl) (by kernel_rfl) ?_
          repeat (first | go_big_quiet_skip | (go_big_quiet_want; go_big_quiet_op; first | go_big_quiet_on | (apply Exists.intro; refine ⟨fun x => ?_, ?_⟩; (go_at_call 32; exact XW.call (HIX.out x.val x.ext)); go_big_quiet_on)))
          refine wpQuiet_nil ?_
          rintro w8 ⟨⟨_, hyw8⟩, rfl⟩
          try dsimp only
          have HE8 := Lib.hid (HE.out.ext hyw8)
          clear xq0 xq1 xq2 xp0 xp1 xp2 xa2 xb2 hrfs hyw8 HIX
          by_cases hz : R = 0
          · have hz1 : (R != 0) = false := by simp [hz]
            have HN := Lib.hid (HNX.out (HRR.out.trans hz))
            have hzz := Lib.hid hz
            clear hz
            go_wp2_with fail
            go_roundg (L.length - (k + 1))
            case measure => omega
            case rel => exact ⟨k + 1, by go_num, rfl, by omega, HN, HE8⟩
          · have hz1 : (R != 0) = true := by simpa using hz
            have HV : Hid (cmpT (.mk n ⟨#[]⟩ L) (.mk m ⟨#[]⟩ M) = R) := Lib.hid (by rw [HEQ.out, HOF.out (by show cmpT (tg L k) (tg M k) ≠ 0; rw [HRR.out]; exact hz)]; exact HRR.out)
            have hzz := Lib.hid hz
            clear hz
            go_wp2_with fail
            go_ret
            rw [HV.out]
            exact ⟨rfl, HZ.out.ext HE8.out⟩
        · obtain rfl : k = L.length := by omega
          have HV : Hid (cmpT (.mk n ⟨#[]⟩ L) (.mk m ⟨#[]⟩ M) = 0) := Lib.hid (by rw [HEQ.out]; exact cmps_all L M H3.out HC.out)
          go_wp2_with fail
          go_ret
          rw [HV.out]
          exact ⟨rfl, HEw.out⟩
    · have hrn : r ≠ nul := fun e => hr (by rw [e]; rfl)
      have hsn : ¬ s ≠ nul := fun h => h hse
      have hdd : decide (s ≠ nul) ≠ decide (r ≠ nul) := by rw [decide_eq_false hsn, decide_eq_true hrn]; decide
      have hv : cmpT (.mk n s L) (.mk m r M) = 1 := by rw [HEQ.out, if_pos hdd, if_neg hsn]
      clear hsn hdd
      obtain ⟨e1, e2, e3, e4⟩ := nonempty_t r (Nat.pos_of_ne_zero hr)
      rw [hv]
      subst hse
      clear hv HEQ
      go_enter Tryz.func32, Tryz.ntmps32
      go_wp2_with fail
      go_ret
      exact ⟨rfl, HZ.out⟩
  · have hsn : s ≠ nul := fun e => hs (by rw [e]; rfl)
    obtain ⟨e1, e2, e3, e4⟩ := nonempty_t s (Nat.pos_of_ne_zero hs)
    by_cases hr : r.size = 0
    · have hre := empty_is _ hr
      have hrn : ¬ r ≠ nul := fun h => h hre
      have hdd : decide (s ≠ nul) ≠ decide (r ≠ nul) := by rw [decide_eq_true hsn, decide_eq_false hrn]; decide
      have hv : cmpT (.mk n s L) (.mk m r M) = -1 := by rw [HEQ.out, if_pos hdd, if_pos hsn]
      clear hrn hdd
      rw [hv]
      subst hre
      clear hv HEQ
      go_enter Tryz.func32, Tryz.ntmps32
      go_wp2_with fail
      go_ret
      exact ⟨rfl, HZ.out⟩
    · have hrn : r ≠ nul := fun e => hr (by rw [e]; rfl)
      obtain ⟨f1, f2, f3, f4⟩ := nonempty_t r (Nat.pos_of_ne_zero hr)
      rw [if_neg (by simp [hsn, hrn])] at HEQ
      by_cases h1 : bcmp n m = 0
      rotate_left
      · have t1 : (bcmp n m != 0) = true := by simpa using h1
        have t1' : decide (bcmp n m = 0) = false := decide_eq_false h1
        have hv : cmpT (.mk n s L) (.mk m r M) = bcmp n m := by rw [HEQ.out, if_pos h1]
        rw [hv]
        clear hv h1 HEQ
        generalize bcmp n m = Z at *
        go_enter Tryz.func32, Tryz.ntmps32
        go_wp2_with fail
        refine (HO1.out _).mono ?_
        rintro e w4 ⟨rfl, hw4⟩
        have H4 := Lib.hid (hw4)
        clear hw4
        clear a0 a1 a2 b0 b1 b2
        have ha4 := H4.out.heap HA.out (fun h => h)
        have hb4 := H4.out.heap HB.out (fun h => h)
        have a0 := cellRow ha4 0 (.string n) rfl
        have a1 := cellRow ha4 1 (.string s) rfl
        have a2 := cellRow ha4 2 (.slice aa L.length ca) rfl
        have b0 := cellRow hb4 0 (.string m) rfl
        have b1 := cellRow hb4 1 (.string r) rfl
        have b2 := cellRow hb4 2 (.slice ab M.length cb) rfl
        clear ha4 hb4
        go_wp2_with fail
        go_ret
        exact ⟨rfl, HZ.out.ext H4.out⟩
      rw [if_neg (by simp [h1])] at HEQ
      rw [h1] at HO1
      clear h1
      by_cases h2 : bcmp s r = 0
      rotate_left
      · have t1 : (bcmp s r != 0) = true := by simpa using h2
        have t1' : decide (bcmp s r = 0) = false := decide_eq_false h2
        have hv : cmpT (.mk n s L) (.mk m r M) = bcmp s r := by rw [HEQ.out, if_pos h2]
        rw [hv]
        clear hv h2 HEQ
        generalize bcmp s r = Z at *
        go_enter Tryz.func32, Tryz.ntmps32
        go_wp2_with fail
        refine (HO1.out _).mono ?_
        rintro e w4 ⟨rfl, hw4⟩
        have H4 := Lib.hid (hw4)
        clear hw4
        clear a0 a1 a2 b0 b1 b2
        have ha4 := H4.out.heap HA.out (fun h => h)
        have hb4 := H4.out.heap HB.out (fun h => h)
        have a0 := cellRow ha4 0 (.string n) rfl
        have a1 := cellRow ha4 1 (.string s) rfl
        have a2 := cellRow ha4 2 (.slice aa L.length ca) rfl
        have b0 := cellRow hb4 0 (.string m) rfl
        have b1 := cellRow hb4 1 (.string r) rfl
        have b2 := cellRow hb4 2 (.slice ab M.length cb) rfl
        clear ha4 hb4
        go_wp2_with fail
        refine (HO2.out _).mono ?_
        rintro e w5 ⟨rfl, hw5⟩
        have H5 := Lib.hid (H4.out.ext hw5)
        clear hw5
        clear a0 a1 a2 b0 b1 b2
        have ha5 := H5.out.heap HA.out (fun h => h)
        have hb5 := H5.out.heap HB.out (fun h => h)
        have a0 := cellRow ha5 0 (.string n) rfl
        have a1 := cellRow ha5 1 (.string s) rfl
        have a2 := cellRow ha5 2 (.slice aa L.length ca) rfl
        have b0 := cellRow hb5 0 (.string m) rfl
        have b1 := cellRow hb5 1 (.string r) rfl
        have b2 := cellRow hb5 2 (.slice ab M.length cb) rfl
        clear ha5 hb5
        go_wp2_with fail
        go_ret
        exact ⟨rfl, HZ.out.ext H5.out⟩
      rw [if_neg (by simp [h2])] at HEQ
      rw [h2] at HO2
      clear h2
      by_cases h3 : L.length = M.length
      rotate_left
      · have u1 : ((L.length : Int) != (M.length : Int)) = true := by simp; omega
        have u1' : decide ((L.length : Int) = (M.length : Int)) = false := decide_eq_false (by omega)
        have u1'' : decide (L.length = M.length) = false := decide_eq_false h3
        rw [if_pos h3] at HEQ
        by_cases h4 : L.length < M.length
        · have u2 : decide ((L.length : Int) < (M.length : Int)) = true := decide_eq_true (by omega)
          have u2' : decide (L.length < M.length) = true := decide_eq_true h4
          have hv : cmpT (.mk n s L) (.mk m r M) = -1 := by rw [HEQ.out, if_pos h4]
          rw [hv]
          clear hv HEQ
          go_enter Tryz.func32, Tryz.ntmps32
          go_wp2_with fail
          refine (HO1.out _).mono ?_
          rintro e w4 ⟨rfl, hw4⟩
          have H4 := Lib.hid (hw4)
          clear hw4
          clear a0 a1 a2 b0 b1 b2
          have ha4 := H4.out.heap HA.out (fun h => h)
          have hb4 := H4.out.heap HB.out (fun h => h)
          have a0 := cellRow ha4 0 (.string n) rfl
          have a1 := cellRow ha4 1 (.string s) rfl
          have a2 := cellRow ha4 2 (.slice aa L.length ca) rfl
          have b0 := cellRow hb4 0 (.string m) rfl
          have b1 := cellRow hb4 1 (.string r) rfl
          have b2 := cellRow hb4 2 (.slice ab M.length cb) rfl
          clear ha4 hb4
          go_wp2_with fail
          refine (HO2.out _).mono ?_
          rintro e w5 ⟨rfl, hw5⟩
          have H5 := Lib.hid (H4.out.ext hw5)
          clear hw5
          clear a0 a1 a2 b0 b1 b2
          have ha5 := H5.out.heap HA.out (fun h => h)
          have hb5 := H5.out.heap HB.out (fun h => h)
          have a0 := cellRow ha5 0 (.string n) rfl
          have a1 := cellRow ha5 1 (.string s) rfl
          have a2 := cellRow ha5 2 (.slice aa L.length ca) rfl
          have b0 := cellRow hb5 0 (.string m) rfl
          have b1 := cellRow hb5 1 (.string r) rfl
          have b2 := cellRow hb5 2 (.slice ab M.length cb) rfl
          clear ha5 hb5
          go_wp2_with fail
          go_ret
          exact ⟨rfl, HZ.out.ext H5.out⟩
        · have u2 : decide ((L.length : Int) < (M.length : Int)) = false := decide_eq_false (by omega)
          have u2' : decide (L.length < M.length) = false := decide_eq_false h4
          have hv : cmpT (.mk n s L) (.mk m r M) = 1 := by rw [HEQ.out, if_neg h4]
          rw [hv]
          clear hv HEQ
          go_enter Tryz.func32, Tryz.ntmps32
          go_wp2_with fail
          refine (HO1.out _).mono ?_
          rintro e w4 ⟨rfl, hw4⟩
          have H4 := Lib.hid (hw4)
          clear hw4
          clear a0 a1 a2 b0 b1 b2
          have ha4 := H4.out.heap HA.out (fun h => h)
          have hb4 := H4.out.heap HB.out (fun h => h)
          have a0 := cellRow ha4 0 (.string n) rfl
          have a1 := cellRow ha4 1 (.string s) rfl
          have a2 := cellRow ha4 2 (.slice aa L.length ca) rfl
          have b0 := cellRow hb4 0 (.string m) rfl
          have b1 := cellRow hb4 1 (.string r) rfl
          have b2 := cellRow hb4 2 (.slice ab M.length cb) rfl
          clear ha4 hb4
          go_wp2_with fail
          refine (HO2.out _).mono ?_
          rintro e w5 ⟨rfl, hw5⟩
          have H5 := Lib.hid (H4.out.ext hw5)
          clear hw5
          clear a0 a1 a2 b0 b1 b2
          have ha5 := H5.out.heap HA.out (fun h => h)
          have hb5 := H5.out.heap HB.out (fun h => h)
          have a0 := cellRow ha5 0 (.string n) rfl
          have a1 := cellRow ha5 1 (.string s) rfl
          have a2 := cellRow ha5 2 (.slice aa L.length ca) rfl
          have b0 := cellRow hb5 0 (.string m) rfl
          have b1 := cellRow hb5 1 (.string r) rfl
          have b2 := cellRow hb5 2 (.slice ab M.length cb) rfl
          clear ha5 hb5
          go_wp2_with fail
          go_ret
          exact ⟨rfl, HZ.out.ext H5.out⟩
      rw [if_neg (by simp [h3])] at HEQ
      have u1 : ((L.length : Int) != (M.length : Int)) = false := by simp; omega
      have u1' : decide ((L.length : Int) = (M.length : Int)) = true := decide_eq_true (by omega)
      have u1'' : decide (L.length = M.length) = true := decide_eq_true h3
      have H3 := Lib.hid h3
      clear h3
      go_enter Tryz.func32, Tryz.ntmps32
      go_wp2_with fail
      refine (HO1.out _).mono ?_
      rintro e w4 ⟨rfl, hw4⟩
      have H4 := Lib.hid (hw4)
      clear hw4
      clear a0 a1 a2 b0 b1 b2
      have ha4 := H4.out.heap HA.out (fun h => h)
      have hb4 := H4.out.heap HB.out (fun h => h)
      have a0 := cellRow ha4 0 (.string n) rfl
      have a1 := cellRow ha4 1 (.string s) rfl
      have a2 := cellRow ha4 2 (.slice aa L.length ca) rfl
      have b0 := cellRow hb4 0 (.string m) rfl
      have b1 := cellRow hb4 1 (.string r) rfl
      have b2 := cellRow hb4 2 (.slice ab M.length cb) rfl
      clear ha4 hb4
      go_wp2_with fail
      refine (HO2.out _).mono ?_
      rintro e w5 ⟨rfl, hw5⟩
      have H5 := Lib.hid (H4.out.ext hw5)
      clear hw5
      clear a0 a1 a2 b0 b1 b2
      have ha5 := H5.out.heap HA.out (fun h => h)
      have hb5 := H5.out.heap HB.out (fun h => h)
      have a0 := cellRow ha5 0 (.string n) rfl
      have a1 := cellRow ha5 1 (.string s) rfl
      have a2 := cellRow ha5 2 (.slice aa L.length ca) rfl
      have b0 := cellRow hb5 0 (.string m) rfl
      have b1 := cellRow hb5 1 (.string r) rfl
      have b2 := cellRow hb5 2 (.slice ab M.length cb) rfl
      clear ha5 hb5
      go_wp2_with fail
      clear a0 a1 a2 b0 b1 b2
      have hlL : L.length ≤ 1000000 := by have h1 := length_le_sizes L; have h2 := hsz; rw [size_eq] at h2; exact Nat.le_trans h1 (Nat.le_of_succ_le h2)
      go_loopg [7] L.length (fun gk iv wr => ∃ k : Nat, iv = .int .i64 (k : Int) ∧ gk = L.length - k ∧ k ≤ L.length ∧ Hid (∀ j, j < k → cmpT (tg L j) (tg M j) = 0) ∧ Hid (Ext ((w.alloc (.cells #[.string n, .string s, .slice aa L.length ca] 24)).alloc (.cells #[.string m, .string r, .slice ab M.length cb] 24)) wr))
      case atStart => exact ⟨0, rfl, rfl, Nat.zero_le _, Lib.hid (fun j h => absurd h (Nat.not_lt_zero _)), H5⟩
      case round =>
        obtain ⟨k, rfl, rfl, hk, HC, HE⟩ := hrel
        have HEw := Lib.hid (HZ.out.ext HE.out)
        have haw := HE.out.heap HA.out (fun h => h)
        have hbw := HE.out.heap HB.out (fun h => h)
        have a0 := cellRow haw 0 (.string n) rfl
        have a1 := cellRow haw 1 (.string s) rfl
        have a2 := cellRow haw 2 (.slice aa L.length ca) rfl
        have b0 := cellRow hbw 0 (.string m) rfl
        have b1 := cellRow hbw 1 (.string r) rfl
        have b2 := cellRow hbw 2 (.slice ab M.length cb) rfl
        clear haw hbw
        by_cases hlt : k < L.length
        · have hltM : k < M.length := by have := H3.out; omega
          obtain ⟨g, off, rfl, _, hat⟩ := (HTL.out.1.ext HEw.out).at_ (by omega)
          obtain ⟨g', off', rfl, _, hat'⟩ := (HTL.out.2.ext HEw.out).at_ (by omega)
          obtain ⟨ka, kc, q0, q1, q2, hkid⟩ := hat k hlt
          obtain ⟨ka', kc', p0, p1, p2, hkid'⟩ := hat' k hltM
          have z0 : (0 : Int) ≤ (k : Int) := by omega
          have z1 : (k : Int) < (L.length : Int) := by omega
          have z2 : decide ((k : Int) < (L.length : Int)) = true := decide_eq_true z1
          have z2' : decide (k < L.length) = true := decide_eq_true hlt
          have z3 : (k : Int) < (M.length : Int) := by omega
          have hmem : tg L k ∈ L := by unfold tg; rw [List.getD_eq_getElem?_getD, List.getElem?_eq_getElem hlt]; exact List.getElem_mem hlt
          have hszk : (tg L k).size ≤ 1000000 := by have h1 := size_mem hmem; have h2 := hsz; rw [size_eq] at h2; exact Nat.le_trans h1 (Nat.le_of_succ_le h2)
          have HIX := Lib.hid (fun W (hW : Ext wr W) => HIH.out (tg L k) hmem (tg M k) _ _ S T W ⟨ka, kc, rfl, hkid.ext hW⟩ ⟨ka', kc', rfl, hkid'.ext hW⟩ hszk)
          have HOF := Lib.hid (cmps_of L M k H3.out hlt HC.out)
          have HNX := Lib.hid (fun h : cmpT (tg L k) (tg M k) = 0 => fun j (hj : j < k + 1) => by
            rcases Nat.lt_succ_iff_lt_or_eq.1 hj with h5 | h5
            · exact HC.out j h5
            · rw [h5]; exact h)
          dsimp only [tV] at HIX
          obtain ⟨R, hR⟩ : ∃ R, cmpT (tg L k) (tg M k) = R := ⟨_, rfl⟩
          rw [hR] at HIX
          have HRR := Lib.hid hR
          clear hR hmem hat hat' hkid hkid'
          obtain ⟨x, hx⟩ : ∃ x, tg L k = x := ⟨_, rfl⟩
          obtain ⟨y, hy⟩ : ∃ y, tg M k = y := ⟨_, rfl⟩
          rw [hx] at q0 q1 q2 HIX
          rw [hy] at p0 p1 p2 HIX
          clear hx hy hszk hltM
          rw [← Nat.add_assoc] at q1 q2 p1 p2
          have xq0 := fun x : XW wr => x.ext.cell q0 (fun h => h)
          have xq1 := fun x : XW wr => x.ext.cell q1 (fun h => h)
          have xq2 := fun x : XW wr => x.ext.cell q2 (fun h => h)
          have xp0 := fun x : XW wr => x.ext.cell p0 (fun h => h)
          have xp1 := fun x : XW wr => x.ext.cell p1 (fun h => h)
          have xp2 := fun x : XW wr => x.ext.cell p2 (fun h => h)
          have xa2 := fun x : XW wr => x.ext.cell a2 (fun h => h)
          have xb2 := fun x : XW wr => x.ext.cell b2 (fun h => h)
          have hrfs := Upd.refl (fun _ => False) wr
          clear q0 q1 q2 p0 p1 p2 a0 a1 b0 b1 b2
          go_wp2_with fail
          clear a2
          refine wp_region_ext wr (by assumption) (by kernel_rfl) (by kernel_rfl) ?_
          repeat (first | go_big_quiet_skip | (go_big_quiet_want; go_big_quiet_op; first | go_big_quiet_on | (apply Exists.intro; refine ⟨fun x => ?_, ?_⟩; (go_at_call 32; exact XW.call (HIX.out x.val x.ext)); go_big_quiet_on)))
          refine wpQuiet_nil ?_
          rintro w8 ⟨⟨_, hyw8⟩, rfl⟩
          try dsimp only
          have HE8 := Lib.hid (HE.out.ext hyw8)
          clear xq0 xq1 xq2 xp0 xp1 xp2 xa2 xb2 hrfs hyw8 HIX
          by_cases hz : R = 0
          · have hz1 : (R != 0) = false := by simp [hz]
            have HN := Lib.hid (HNX.out (HRR.out.trans hz))
            have hzz := Lib.hid hz
            clear hz
            go_wp2_with fail
            go_roundg (L.length - (k + 1))
            case measure => omega
            case rel => exact ⟨k + 1, by go_num, rfl, by omega, HN, HE8⟩
          · have hz1 : (R != 0) = true := by simpa using hz
            have HV : Hid (cmpT (.mk n s L) (.mk m r M) = R) := Lib.hid (by rw [HEQ.out, HOF.out (by show cmpT (tg L k) (tg M k) ≠ 0; rw [HRR.out]; exact hz)]; exact HRR.out)
            have hzz := Lib.hid hz
            clear hz
            go_wp2_with fail
            go_ret
            rw [HV.out]
            exact ⟨rfl, HZ.out.ext HE8.out⟩
        · obtain rfl : k = L.length := by omega
          have HV : Hid (cmpT (.mk n s L) (.mk m r M) = 0) := Lib.hid (by rw [HEQ.out]; exact cmps_all L M H3.out HC.out)
          go_wp2_with fail
          go_ret
          rw [HV.out]
          exact ⟨rfl, HEw.out⟩

end Go.Proofs.YtjjaknmnhhfjeaaGreatDoor

/- Same of the reference. -/
namespace Go.Proofs.YtjjaknmnhhfjeaaGreatDoor
open Go.RowKit Go.Hw Go
set_option linter.unusedVariables false
set_option linter.unusedSimpArgs false

open Tm
set_option maxRecDepth 100000 in
set_option maxHeartbeats 2000000 in
theorem same_x (t u : Tm) (v v' : Value) (S T : Nat → Prop) (w : World) (hR : TmR S w t v) (hR' : TmR T w u v') (hsz : t.size ≤ 1000000) :
    Calls Tryz.prog 14 #[v, v'] w fun e w' => e = .returned (.bool (decide (t = u))) ∧ Ext w w' := by
  have HR := Lib.hid (And.intro hR hR')
  obtain ⟨aa, ca, rfl, hT⟩ := hR
  obtain ⟨ab, cb, rfl, hT'⟩ := hR'
  have HC := Lib.hid (fun W (hW : Ext w W) => compare_x t u _ _ S T W (HR.out.1.ext hW) (HR.out.2.ext hW) hsz)
  dsimp only [tV] at HC ⊢
  have HZ := Lib.hid (((Upd.refl (fun _ => False) w).alloc (.cells #[.string t.name, .string t.sort, .slice aa t.kids.length ca] 24)).alloc (.cells #[.string u.name, .string u.sort, .slice ab u.kids.length cb] 24))
  have HA := Lib.hid (allocOld (alloc0 w (.cells #[.string t.name, .string t.sort, .slice aa t.kids.length ca] 24)) (.cells #[.string u.name, .string u.sort, .slice ab u.kids.length cb] 24))
  have HB := Lib.hid (alloc_at (w.alloc (.cells #[.string t.name, .string t.sort, .slice aa t.kids.length ca] 24)) (.cells #[.string u.name, .string u.sort, .slice ab u.kids.length cb] 24) (n := w.heap.size + 1) (by simp))
  have a0 := cellRow HA.out 0 (.string t.name) rfl
  have a1 := cellRow HA.out 1 (.string t.sort) rfl
  have a2 := cellRow HA.out 2 (.slice aa t.kids.length ca) rfl
  have b0 := cellRow HB.out 0 (.string u.name) rfl
  have b1 := cellRow HB.out 1 (.string u.sort) rfl
  have b2 := cellRow HB.out 2 (.slice ab u.kids.length cb) rfl
  have hz : decide (t = u) = (cmpT t u == 0) := by
    rw [Bool.eq_iff_iff, decide_eq_true_eq, beq_iff_eq, cmpT_zero]
  rw [hz]
  clear hz hT hT'
  generalize cmpT t u = Z at *
  go_enter Tryz.func14, Tryz.ntmps14
  go_wp2_with fail
  refine (HC.out _ HZ.out).mono ?_
  rintro e w4 ⟨rfl, hw4⟩
  have H4 := Lib.hid (HZ.out.ext hw4)
  clear hw4 a0 a1 a2 b0 b1 b2
  go_wp2_with fail
  go_ret
  exact ⟨rfl, H4.out⟩

end Go.Proofs.YtjjaknmnhhfjeaaGreatDoor
