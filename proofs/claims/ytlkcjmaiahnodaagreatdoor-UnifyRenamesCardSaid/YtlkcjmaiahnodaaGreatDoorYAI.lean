/- The texts I7 I8 I9 I10 I11 I12 I13 I14 I15 I16, one behind the other. -/
import Derived.Test.YtlkcjmaiahnodaaGreatDoorYAA
import Derived.Test.YtlkcjmaiahnodaaGreatDoorYAH
import Derived.Sort.Walk0
import Derived.Laws.Cover1
import Derived.BigQuiet
import Derived.Test.YtlkcjmaiahnodaaGreatDoorYAB
import Derived.Test.YtlkcjmaiahnodaaGreatDoorYAC
/- Compare of the reference. -/
namespace Go.Proofs.YtlkcjmaiahnodaaGreatDoor
open Go.RowKit Go.Hw Go
set_option linter.unusedVariables false
set_option linter.unusedSimpArgs false

open Tm
theorem bless (x y : ByteArray) : Op.bytesLess x.toList y.toList = blt x y := by
  unfold blt
  rw [bytesLess_eq, Lib.toList_data, Lib.toList_data]
set_option maxRecDepth 100000 in
set_option maxHeartbeats 2000000 in
theorem order_x (x y : ByteArray) (w : World) : Calls Tryz.prog 149 #[.string x, .string y] w fun e w' => e = .returned (.int .i64 (bcmp x y)) ∧ Ext w w' := by
  have hrf := Lib.hid (Upd.refl (fun _ => False) w)
  have t1 := bless x y
  have t2 := bless y x
  have hb : bcmp x y = if blt x y = true then -1 else if blt y x = true then 1 else 0 := rfl
  generalize bcmp x y = Z at *
  cases h1 : blt x y
  · rw [h1] at t1 hb
    cases h2 : blt y x
    · rw [h2] at t2 hb
      have hz : Z = 0 := hb
      subst hz
      have hxy : x = y := by
        by_cases e : x = y
        · exact e
        · rcases blt_tri x y e with h3 | h3
          · rw [h3] at h1; cases h1
          · rw [h3] at h2; cases h2
      have t3 : (x.toList == y.toList) = true := by rw [hxy]; simp
      clear hb h1 h2 hxy
      go_enter Tryz.func149, Tryz.ntmps149
      go_wp2_with fail
      go_ret
      exact ⟨rfl, hrf.out⟩
    · rw [h2] at t2 hb
      have hz : Z = 1 := hb
      subst hz
      have t3 : (x.toList == y.toList) = false := by
        rw [beq_eq_false_iff_ne]
        intro e
        have hxy : x = y := ba_list (by rw [Lib.toList_data, Lib.toList_data] at e; exact e)
        rw [hxy, blt_irrefl] at h2
        cases h2
      clear hb h1 h2
      go_enter Tryz.func149, Tryz.ntmps149
      go_wp2_with fail
      go_ret
      exact ⟨rfl, hrf.out⟩
  · rw [h1] at t1 hb
    have hz : Z = -1 := hb
    subst hz
    clear hb h1
    go_enter Tryz.func149, Tryz.ntmps149
    go_wp2_with fail
    go_ret
    exact ⟨rfl, hrf.out⟩
set_option maxRecDepth 100000 in
set_option maxHeartbeats 2000000 in
theorem compare_x : ∀ (t u : Tm) (v v' : Value) (S T : Nat → Prop) (w : World), TmR S w t v → TmR T w u v' → t.size ≤ 1000000 →
    Calls Tryz.prog 85 #[v, v'] w fun e w' => e = .returned (.int .i64 (cmpT t u)) ∧ Ext w w' := by
  refine Tm.ind (fun n s L ih => ?_)
  intro u v v' S T w hR hR' hsz
  obtain ⟨m, r, M⟩ := u
  obtain ⟨aa, ca, rfl, hT⟩ := hR
  obtain ⟨ab, cb, rfl, hT'⟩ := hR'
  dsimp only [tV, Tm.name, Tm.sort, Tm.kids] at hT hT' ⊢
  have HTL := Lib.hid (And.intro hT hT')
  have HIH := Lib.hid ih
  clear ih hT hT'
  have HZ := Lib.hid (((Upd.refl (fun _ => False) w).alloc (.cells #[.string n, .string s, .slice aa L.length ca] 24)).alloc (.cells #[.string m, .string r, .slice ab M.length cb] 24))
  have HA := Lib.hid (allocOld (alloc0 w (.cells #[.string n, .string s, .slice aa L.length ca] 24)) (.cells #[.string m, .string r, .slice ab M.length cb] 24))
  have HB := Lib.hid (alloc_at (w.alloc (.cells #[.string n, .string s, .slice aa L.length ca] 24)) (.cells #[.string m, .string r, .slice ab M.length cb] 24) (n := w.heap.size + 1) (by simp))
  have HO1 := Lib.hid (fun W => order_x n m W)
  have HO2 := Lib.hid (fun W => order_x s r W)
  have ha0 := (Upd.refl (fun _ => False) _).heap HA.out (fun h => h)
  have hb0 := (Upd.refl (fun _ => False) _).heap HB.out (fun h => h)
  have a0 := cellRow ha0 0 (.string n) rfl
  have a1 := cellRow ha0 1 (.string s) rfl
  have a2 := cellRow ha0 2 (.slice aa L.length ca) rfl
  have b0 := cellRow hb0 0 (.string m) rfl
  have b1 := cellRow hb0 1 (.string r) rfl
  have b2 := cellRow hb0 2 (.slice ab M.length cb) rfl
  clear ha0 hb0
  have HEQ := Lib.hid (cmpT_eq n s L m r M)
  by_cases hs : s.size = 0
  · have hse := empty_is _ hs
    by_cases hr : r.size = 0
    · have hre := empty_is _ hr
      subst hse hre
      rw [if_neg (by simp)] at HEQ
      by_cases h1 : bcmp n m = 0
      rotate_left
      · have t1 : (bcmp n m != 0) = true := by simpa using h1
        have t1' : decide (bcmp n m = 0) = false := decide_eq_false h1
        have hv : cmpT (.mk n ⟨#[]⟩ L) (.mk m ⟨#[]⟩ M) = bcmp n m := by rw [HEQ.out, if_pos h1]
        rw [hv]
        clear hv h1 HEQ
        generalize bcmp n m = Z at *
        go_enter Tryz.func85, Tryz.ntmps85
        go_wp2_with fail
        refine (HO1.out _).mono ?_
        rintro e w4 ⟨rfl, hw4⟩
        have H4 := Lib.hid (hw4)
        clear hw4
        clear a0 a1 a2 b0 b1 b2
        have ha4 := H4.out.heap HA.out (fun h => h)
        have hb4 := H4.out.heap HB.out (fun h => h)
        have a0 := cellRow ha4 0 (.string n) rfl
        have a1 := cellRow ha4 1 (.string ⟨#[]⟩) rfl
        have a2 := cellRow ha4 2 (.slice aa L.length ca) rfl
        have b0 := cellRow hb4 0 (.string m) rfl
        have b1 := cellRow hb4 1 (.string ⟨#[]⟩) rfl
        have b2 := cellRow hb4 2 (.slice ab M.length cb) rfl
        clear ha4 hb4
        go_wp2_with fail
        go_ret
        exact ⟨rfl, HZ.out.ext H4.out⟩
      rw [if_neg (by simp [h1])] at HEQ
      rw [h1] at HO1
      clear h1
      by_cases h2 : bcmp ⟨#[]⟩ ⟨#[]⟩ = 0
      rotate_left
      · have t1 : (bcmp ⟨#[]⟩ ⟨#[]⟩ != 0) = true := by simpa using h2
        have t1' : decide (bcmp ⟨#[]⟩ ⟨#[]⟩ = 0) = false := decide_eq_false h2
        have hv : cmpT (.mk n ⟨#[]⟩ L) (.mk m ⟨#[]⟩ M) = bcmp ⟨#[]⟩ ⟨#[]⟩ := by rw [HEQ.out, if_pos h2]
        rw [hv]
        clear hv h2 HEQ
        generalize bcmp ⟨#[]⟩ ⟨#[]⟩ = Z at *
        go_enter Tryz.func85, Tryz.ntmps85
        go_wp2_with fail
        refine (HO1.out _).mono ?_
        rintro e w4 ⟨rfl, hw4⟩
        have H4 := Lib.hid (hw4)
        clear hw4
        clear a0 a1 a2 b0 b1 b2
        have ha4 := H4.out.heap HA.out (fun h => h)
        have hb4 := H4.out.heap HB.out (fun h => h)
        have a0 := cellRow ha4 0 (.string n) rfl
        have a1 := cellRow ha4 1 (.string ⟨#[]⟩) rfl
        have a2 := cellRow ha4 2 (.slice aa L.length ca) rfl
        have b0 := cellRow hb4 0 (.string m) rfl
        have b1 := cellRow hb4 1 (.string ⟨#[]⟩) rfl
        have b2 := cellRow hb4 2 (.slice ab M.length cb) rfl
        clear ha4 hb4
        go_wp2_with fail
        refine (HO2.out _).mono ?_
        rintro e w5 ⟨rfl, hw5⟩
        have H5 := Lib.hid (H4.out.ext hw5)
        clear hw5
        clear a0 a1 a2 b0 b1 b2
        have ha5 := H5.out.heap HA.out (fun h => h)
        have hb5 := H5.out.heap HB.out (fun h => h)
        have a0 := cellRow ha5 0 (.string n) rfl
        have a1 := cellRow ha5 1 (.string ⟨#[]⟩) rfl
        have a2 := cellRow ha5 2 (.slice aa L.length ca) rfl
        have b0 := cellRow hb5 0 (.string m) rfl
        have b1 := cellRow hb5 1 (.string ⟨#[]⟩) rfl
        have b2 := cellRow hb5 2 (.slice ab M.length cb) rfl
        clear ha5 hb5
        go_wp2_with fail
        go_ret
        exact ⟨rfl, HZ.out.ext H5.out⟩
      rw [if_neg (by simp [h2])] at HEQ
      rw [h2] at HO2
      clear h2
      by_cases h3 : L.length = M.length
      rotate_left
      · have u1 : ((L.length : Int) != (M.length : Int)) = true := by simp; omega
        have u1' : decide ((L.length : Int) = (M.length : Int)) = false := decide_eq_false (by omega)
        have u1'' : decide (L.length = M.length) = false := decide_eq_false h3
        rw [if_pos h3] at HEQ
        by_cases h4 : L.length < M.length
        · have u2 : decide ((L.length : Int) < (M.length : Int)) = true := decide_eq_true (by omega)
          have u2' : decide (L.length < M.length) = true := decide_eq_true h4
          have hv : cmpT (.mk n ⟨#[]⟩ L) (.mk m ⟨#[]⟩ M) = -1 := by rw [HEQ.out, if_pos h4]
          rw [hv]
          clear hv HEQ
          go_enter Tryz.func85, Tryz.ntmps85
          go_wp2_with fail
          refine (HO1.out _).mono ?_
          rintro e w4 ⟨rfl, hw4⟩
          have H4 := Lib.hid (hw4)
          clear hw4
          clear a0 a1 a2 b0 b1 b2
          have ha4 := H4.out.heap HA.out (fun h => h)
          have hb4 := H4.out.heap HB.out (fun h => h)
          have a0 := cellRow ha4 0 (.string n) rfl
          have a1 := cellRow ha4 1 (.string ⟨#[]⟩) rfl
          have a2 := cellRow ha4 2 (.slice aa L.length ca) rfl
          have b0 := cellRow hb4 0 (.string m) rfl
          have b1 := cellRow hb4 1 (.string ⟨#[]⟩) rfl
          have b2 := cellRow hb4 2 (.slice ab M.length cb) rfl
          clear ha4 hb4
          go_wp2_with fail
          refine (HO2.out _).mono ?_
          rintro e w5 ⟨rfl, hw5⟩
          have H5 := Lib.hid (H4.out.ext hw5)
          clear hw5
          clear a0 a1 a2 b0 b1 b2
          have ha5 := H5.out.heap HA.out (fun h => h)
          have hb5 := H5.out.heap HB.out (fun h => h)
          have a0 := cellRow ha5 0 (.string n) rfl
          have a1 := cellRow ha5 1 (.string ⟨#[]⟩) rfl
          have a2 := cellRow ha5 2 (.slice aa L.length ca) rfl
          have b0 := cellRow hb5 0 (.string m) rfl
          have b1 := cellRow hb5 1 (.string ⟨#[]⟩) rfl
          have b2 := cellRow hb5 2 (.slice ab M.length cb) rfl
          clear ha5 hb5
          go_wp2_with fail
          go_ret
          exact ⟨rfl, HZ.out.ext H5.out⟩
        · have u2 : decide ((L.length : Int) < (M.length : Int)) = false := decide_eq_false (by omega)
          have u2' : decide (L.length < M.length) = false := decide_eq_false h4
          have hv : cmpT (.mk n ⟨#[]⟩ L) (.mk m ⟨#[]⟩ M) = 1 := by rw [HEQ.out, if_neg h4]
          rw [hv]
          clear hv HEQ
          go_enter Tryz.func85, Tryz.ntmps85
          go_wp2_with fail
          refine (HO1.out _).mono ?_
          rintro e w4 ⟨rfl, hw4⟩
          have H4 := Lib.hid (hw4)
          clear hw4
          clear a0 a1 a2 b0 b1 b2
          have ha4 := H4.out.heap HA.out (fun h => h)
          have hb4 := H4.out.heap HB.out (fun h => h)
          have a0 := cellRow ha4 0 (.string n) rfl
          have a1 := cellRow ha4 1 (.string ⟨#[]⟩) rfl
          have a2 := cellRow ha4 2 (.slice aa L.length ca) rfl
          have b0 := cellRow hb4 0 (.string m) rfl
          have b1 := cellRow hb4 1 (.string ⟨#[]⟩) rfl
          have b2 := cellRow hb4 2 (.slice ab M.length cb) rfl
          clear ha4 hb4
          go_wp2_with fail
          refine (HO2.out _).mono ?_
          rintro e w5 ⟨rfl, hw5⟩
          have H5 := Lib.hid (H4.out.ext hw5)
          clear hw5
          clear a0 a1 a2 b0 b1 b2
          have ha5 := H5.out.heap HA.out (fun h => h)
          have hb5 := H5.out.heap HB.out (fun h => h)
          have a0 := cellRow ha5 0 (.string n) rfl
          have a1 := cellRow ha5 1 (.string ⟨#[]⟩) rfl
          have a2 := cellRow ha5 2 (.slice aa L.length ca) rfl
          have b0 := cellRow hb5 0 (.string m) rfl
          have b1 := cellRow hb5 1 (.string ⟨#[]⟩) rfl
          have b2 := cellRow hb5 2 (.slice ab M.length cb) rfl
          clear ha5 hb5
          go_wp2_with fail
          go_ret
          exact ⟨rfl, HZ.out.ext H5.out⟩
      rw [if_neg (by simp [h3])] at HEQ
      have u1 : ((L.length : Int) != (M.length : Int)) = false := by simp; omega
      have u1' : decide ((L.length : Int) = (M.length : Int)) = true := decide_eq_true (by omega)
      have u1'' : decide (L.length = M.length) = true := decide_eq_true h3
      have H3 := Lib.hid h3
      clear h3
      go_enter Tryz.func85, Tryz.ntmps85
      go_wp2_with fail
      refine (HO1.out _).mono ?_
      rintro e w4 ⟨rfl, hw4⟩
      have H4 := Lib.hid (hw4)
      clear hw4
      clear a0 a1 a2 b0 b1 b2
      have ha4 := H4.out.heap HA.out (fun h => h)
      have hb4 := H4.out.heap HB.out (fun h => h)
      have a0 := cellRow ha4 0 (.string n) rfl
      have a1 := cellRow ha4 1 (.string ⟨#[]⟩) rfl
      have a2 := cellRow ha4 2 (.slice aa L.length ca) rfl
      have b0 := cellRow hb4 0 (.string m) rfl
      have b1 := cellRow hb4 1 (.string ⟨#[]⟩) rfl
      have b2 := cellRow hb4 2 (.slice ab M.length cb) rfl
      clear ha4 hb4
      go_wp2_with fail
      refine (HO2.out _).mono ?_
      rintro e w5 ⟨rfl, hw5⟩
      have H5 := Lib.hid (H4.out.ext hw5)
      clear hw5
      clear a0 a1 a2 b0 b1 b2
      have ha5 := H5.out.heap HA.out (fun h => h)
      have hb5 := H5.out.heap HB.out (fun h => h)
      have a0 := cellRow ha5 0 (.string n) rfl
      have a1 := cellRow ha5 1 (.string ⟨#[]⟩) rfl
      have a2 := cellRow ha5 2 (.slice aa L.length ca) rfl
      have b0 := cellRow hb5 0 (.string m) rfl
      have b1 := cellRow hb5 1 (.string ⟨#[]⟩) rfl
      have b2 := cellRow hb5 2 (.slice ab M.length cb) rfl
      clear ha5 hb5
      go_wp2_with fail
      clear a0 a1 a2 b0 b1 b2
      have hlL : L.length ≤ 1000000 := by have h1 := length_le_sizes L; have h2 := hsz; rw [size_eq] at h2; exact Nat.le_trans h1 (Nat.le_of_succ_le h2)
      go_loopg [7] L.length (fun gk iv wr => ∃ k : Nat, iv = .int .i64 (k : Int) ∧ gk = L.length - k ∧ k ≤ L.length ∧ Hid (∀ j, j < k → cmpT (tg L j) (tg M j) = 0) ∧ Hid (Ext ((w.alloc (.cells #[.string n, .string ⟨#[]⟩, .slice aa L.length ca] 24)).alloc (.cells #[.string m, .string ⟨#[]⟩, .slice ab M.length cb] 24)) wr))
      case atStart => exact ⟨0, rfl, rfl, Nat.zero_le _, Lib.hid (fun j h => absurd h (Nat.not_lt_zero _)), H5⟩
      case round =>
        obtain ⟨k, rfl, rfl, hk, HC, HE⟩ := hrel
        have HEw := Lib.hid (HZ.out.ext HE.out)
        have haw := HE.out.heap HA.out (fun h => h)
        have hbw := HE.out.heap HB.out (fun h => h)
        have a0 := cellRow haw 0 (.string n) rfl
        have a1 := cellRow haw 1 (.string ⟨#[]⟩) rfl
        have a2 := cellRow haw 2 (.slice aa L.length ca) rfl
        have b0 := cellRow hbw 0 (.string m) rfl
        have b1 := cellRow hbw 1 (.string ⟨#[]⟩) rfl
        have b2 := cellRow hbw 2 (.slice ab M.length cb) rfl
        clear haw hbw
        by_cases hlt : k < L.length
        · have hltM : k < M.length := by have := H3.out; omega
          obtain ⟨g, off, rfl, _, hat⟩ := (HTL.out.1.ext HEw.out).at_ (by omega)
          obtain ⟨g', off', rfl, _, hat'⟩ := (HTL.out.2.ext HEw.out).at_ (by omega)
          obtain ⟨ka, kc, q0, q1, q2, hkid⟩ := hat k hlt
          obtain ⟨ka', kc', p0, p1, p2, hkid'⟩ := hat' k hltM
          have z0 : (0 : Int) ≤ (k : Int) := by omega
          have z1 : (k : Int) < (L.length : Int) := by omega
          have z2 : decide ((k : Int) < (L.length : Int)) = true := decide_eq_true z1
          have z2' : decide (k < L.length) = true := decide_eq_true hlt
          have z3 : (k : Int) < (M.length : Int) := by omega
          have hmem : tg L k ∈ L := by unfold tg; rw [List.getD_eq_getElem?_getD, List.getElem?_eq_getElem hlt]; exact List.getElem_mem hlt
          have hszk : (tg L k).size ≤ 1000000 := by have h1 := size_mem hmem; have h2 := hsz; rw [size_eq] at h2; exact Nat.le_trans h1 (Nat.le_of_succ_le h2)
          have HIX := Lib.hid (fun W (hW : Ext wr W) => HIH.out (tg L k) hmem (tg M k) _ _ S T W ⟨ka, kc, rfl, hkid.ext hW⟩ ⟨ka', kc', rfl, hkid'.ext hW⟩ hszk)
          have HOF := Lib.hid (cmps_of L M k H3.out hlt HC.out)
          have HNX := Lib.hid (fun h : cmpT (tg L k) (tg M k) = 0 => fun j (hj : j < k + 1) => by
            rcases Nat.lt_succ_iff_lt_or_eq.1 hj with h5 | h5
            · exact HC.out j h5
            · rw [h5]; exact h)
          dsimp only [tV] at HIX
          obtain ⟨R, hR⟩ : ∃ R, cmpT (tg L k) (tg M k) = R := ⟨_, rfl⟩
          rw [hR] at HIX
          have HRR := Lib.hid hR
          clear hR hmem hat hat' hkid hkid'
          obtain ⟨x, hx⟩ : ∃ x, tg L k = x := ⟨_, rfl⟩
          obtain ⟨y, hy⟩ : ∃ y, tg M k = y := ⟨_, rfl⟩
          rw [hx] at q0 q1 q2 HIX
          rw [hy] at p0 p1 p2 HIX
          clear hx hy hszk hltM
          rw [← Nat.add_assoc] at q1 q2 p1 p2
          have xq0 := fun x : XW wr => x.ext.cell q0 (fun h => h)
          have xq1 := fun x : XW wr => x.ext.cell q1 (fun h => h)
          have xq2 := fun x : XW wr => x.ext.cell q2 (fun h => h)
          have xp0 := fun x : XW wr => x.ext.cell p0 (fun h => h)
          have xp1 := fun x : XW wr => x.ext.cell p1 (fun h => h)
          have xp2 := fun x : XW wr => x.ext.cell p2 (fun h => h)
          have xa2 := fun x : XW wr => x.ext.cell a2 (fun h => h)
          have xb2 := fun x : XW wr => x.ext.cell b2 (fun h => h)
          have hrfs := Upd.refl (fun _ => False) wr
          clear q0 q1 q2 p0 p1 p2 a0 a1 b0 b1 b2
          go_wp2_with fail
          clear a2
          refine wp_region_ext wr (by assumption) (by kernel_rfl) (by kernel_rfl) ?_
          repeat (first | go_big_quiet_skip | (go_big_quiet_want; go_big_quiet_op; first | go_big_quiet_on | (apply Exists.intro; refine ⟨fun x => ?_, ?_⟩; (go_at_call 85; exact XW.call (HIX.out x.val x.ext)); go_big_quiet_on)))
          refine wpQuiet_nil ?_
          rintro w8 ⟨⟨_, hyw8⟩, rfl⟩
          try dsimp only
          have HE8 := Lib.hid (HE.out.ext hyw8)
          clear xq0 xq1 xq2 xp0 xp1 xp2 xa2 xb2 hrfs hyw8 HIX
          by_cases hz : R = 0
          · have hz1 : (R != 0) = false := by simp [hz]
            have HN := Lib.hid (HNX.out (HRR.out.trans hz))
            have hzz := Lib.hid hz
            clear hz
            go_wp2_with fail
            go_roundg (L.length - (k + 1))
            case measure => omega
            case rel => exact ⟨k + 1, by go_num, rfl, by omega, HN, HE8⟩
          · have hz1 : (R != 0) = true := by simpa using hz
            have HV : Hid (cmpT (.mk n ⟨#[]⟩ L) (.mk m ⟨#[]⟩ M) = R) := Lib.hid (by rw [HEQ.out, HOF.out (by show cmpT (tg L k) (tg M k) ≠ 0; rw [HRR.out]; exact hz)]; exact HRR.out)
            have hzz := Lib.hid hz
            clear hz
            go_wp2_with fail
            go_ret
            rw [HV.out]
            exact ⟨rfl, HZ.out.ext HE8.out⟩
        · obtain rfl : k = L.length := by omega
          have HV : Hid (cmpT (.mk n ⟨#[]⟩ L) (.mk m ⟨#[]⟩ M) = 0) := Lib.hid (by rw [HEQ.out]; exact cmps_all L M H3.out HC.out)
          go_wp2_with fail
          go_ret
          rw [HV.out]
          exact ⟨rfl, HEw.out⟩
    · have hrn : r ≠ nul := fun e => hr (by rw [e]; rfl)
      have hsn : ¬ s ≠ nul := fun h => h hse
      have hdd : decide (s ≠ nul) ≠ decide (r ≠ nul) := by rw [decide_eq_false hsn, decide_eq_true hrn]; decide
      have hv : cmpT (.mk n s L) (.mk m r M) = 1 := by rw [HEQ.out, if_pos hdd, if_neg hsn]
      clear hsn hdd
      obtain ⟨e1, e2, e3, e4⟩ := nonempty_t r (Nat.pos_of_ne_zero hr)
      rw [hv]
      subst hse
      clear hv HEQ
      go_enter Tryz.func85, Tryz.ntmps85
      go_wp2_with fail
      go_ret
      exact ⟨rfl, HZ.out⟩
  · have hsn : s ≠ nul := fun e => hs (by rw [e]; rfl)
    obtain ⟨e1, e2, e3, e4⟩ := nonempty_t s (Nat.pos_of_ne_zero hs)
    by_cases hr : r.size = 0
    · have hre := empty_is _ hr
      have hrn : ¬ r ≠ nul := fun h => h hre
      have hdd : decide (s ≠ nul) ≠ decide (r ≠ nul) := by rw [decide_eq_true hsn, decide_eq_false hrn]; decide
      have hv : cmpT (.mk n s L) (.mk m r M) = -1 := by rw [HEQ.out, if_pos hdd, if_pos hsn]
      clear hrn hdd
      rw [hv]
      subst hre
      clear hv HEQ
      go_enter Tryz.func85, Tryz.ntmps85
      go_wp2_with fail
      go_ret
      exact ⟨rfl, HZ.out⟩
    · have hrn : r ≠ nul := fun e => hr (by rw [e]; rfl)
      obtain ⟨f1, f2, f3, f4⟩ := nonempty_t r (Nat.pos_of_ne_zero hr)
      rw [if_neg (by simp [hsn, hrn])] at HEQ
      by_cases h1 : bcmp n m = 0
      rotate_left
      · have t1 : (bcmp n m != 0) = true := by simpa using h1
        have t1' : decide (bcmp n m = 0) = false := decide_eq_false h1
        have hv : cmpT (.mk n s L) (.mk m r M) = bcmp n m := by rw [HEQ.out, if_pos h1]
        rw [hv]
        clear hv h1 HEQ
        generalize bcmp n m = Z at *
        go_enter Tryz.func85, Tryz.ntmps85
        go_wp2_with fail
        refine (HO1.out _).mono ?_
        rintro e w4 ⟨rfl, hw4⟩
        have H4 := Lib.hid (hw4)
        clear hw4
        clear a0 a1 a2 b0 b1 b2
        have ha4 := H4.out.heap HA.out (fun h => h)
        have hb4 := H4.out.heap HB.out (fun h => h)
        have a0 := cellRow ha4 0 (.string n) rfl
        have a1 := cellRow ha4 1 (.string s) rfl
        have a2 := cellRow ha4 2 (.slice aa L.length ca) rfl
        have b0 := cellRow hb4 0 (.string m) rfl
        have b1 := cellRow hb4 1 (.string r) rfl
        have b2 := cellRow hb4 2 (.slice ab M.length cb) rfl
        clear ha4 hb4
        go_wp2_with fail
        go_ret
        exact ⟨rfl, HZ.out.ext H4.out⟩
      rw [if_neg (by simp [h1])] at HEQ
      rw [h1] at HO1
      clear h1
      by_cases h2 : bcmp s r = 0
      rotate_left
      · have t1 : (bcmp s r != 0) = true := by simpa using h2
        have t1' : decide (bcmp s r = 0) = false := decide_eq_false h2
        have hv : cmpT (.mk n s L) (.mk m r M) = bcmp s r := by rw [HEQ.out, if_pos h2]
        rw [hv]
        clear hv h2 HEQ
        generalize bcmp s r = Z at *
        go_enter Tryz.func85, Tryz.ntmps85
        go_wp2_with fail
        refine (HO1.out _).mono ?_
        rintro e w4 ⟨rfl, hw4⟩
        have H4 := Lib.hid (hw4)
        clear hw4
        clear a0 a1 a2 b0 b1 b2
        have ha4 := H4.out.heap HA.out (fun h => h)
        have hb4 := H4.out.heap HB.out (fun h => h)
        have a0 := cellRow ha4 0 (.string n) rfl
        have a1 := cellRow ha4 1 (.string s) rfl
        have a2 := cellRow ha4 2 (.slice aa L.length ca) rfl
        have b0 := cellRow hb4 0 (.string m) rfl
        have b1 := cellRow hb4 1 (.string r) rfl
        have b2 := cellRow hb4 2 (.slice ab M.length cb) rfl
        clear ha4 hb4
        go_wp2_with fail
        refine (HO2.out _).mono ?_
        rintro e w5 ⟨rfl, hw5⟩
        have H5 := Lib.hid (H4.out.ext hw5)
        clear hw5
        clear a0 a1 a2 b0 b1 b2
        have ha5 := H5.out.heap HA.out (fun h => h)
        have hb5 := H5.out.heap HB.out (fun h => h)
        have a0 := cellRow ha5 0 (.string n) rfl
        have a1 := cellRow ha5 1 (.string s) rfl
        have a2 := cellRow ha5 2 (.slice aa L.length ca) rfl
        have b0 := cellRow hb5 0 (.string m) rfl
        have b1 := cellRow hb5 1 (.string r) rfl
        have b2 := cellRow hb5 2 (.slice ab M.length cb) rfl
        clear ha5 hb5
        go_wp2_with fail
        go_ret
        exact ⟨rfl, HZ.out.ext H5.out⟩
      rw [if_neg (by simp [h2])] at HEQ
      rw [h2] at HO2
      clear h2
      by_cases h3 : L.length = M.length
      rotate_left
      · have u1 : ((L.length : Int) != (M.length : Int)) = true := by simp; omega
        have u1' : decide ((L.length : Int) = (M.length : Int)) = false := decide_eq_false (by omega)
        have u1'' : decide (L.length = M.length) = false := decide_eq_false h3
        rw [if_pos h3] at HEQ
        by_cases h4 : L.length < M.length
        · have u2 : decide ((L.length : Int) < (M.length : Int)) = true := decide_eq_true (by omega)
          have u2' : decide (L.length < M.length) = true := decide_eq_true h4
          have hv : cmpT (.mk n s L) (.mk m r M) = -1 := by rw [HEQ.out, if_pos h4]
          rw [hv]
          clear hv HEQ
          go_enter Tryz.func85, Tryz.ntmps85
          go_wp2_with fail
          refine (HO1.out _).mono ?_
          rintro e w4 ⟨rfl, hw4⟩
          have H4 := Lib.hid (hw4)
          clear hw4
          clear a0 a1 a2 b0 b1 b2
          have ha4 := H4.out.heap HA.out (fun h => h)
          have hb4 := H4.out.heap HB.out (fun h => h)
          have a0 := cellRow ha4 0 (.string n) rfl
          have a1 := cellRow ha4 1 (.string s) rfl
          have a2 := cellRow ha4 2 (.slice aa L.length ca) rfl
          have b0 := cellRow hb4 0 (.string m) rfl
          have b1 := cellRow hb4 1 (.string r) rfl
          have b2 := cellRow hb4 2 (.slice ab M.length cb) rfl
          clear ha4 hb4
          go_wp2_with fail
          refine (HO2.out _).mono ?_
          rintro e w5 ⟨rfl, hw5⟩
          have H5 := Lib.hid (H4.out.ext hw5)
          clear hw5
          clear a0 a1 a2 b0 b1 b2
          have ha5 := H5.out.heap HA.out (fun h => h)
          have hb5 := H5.out.heap HB.out (fun h => h)
          have a0 := cellRow ha5 0 (.string n) rfl
          have a1 := cellRow ha5 1 (.string s) rfl
          have a2 := cellRow ha5 2 (.slice aa L.length ca) rfl
          have b0 := cellRow hb5 0 (.string m) rfl
          have b1 := cellRow hb5 1 (.string r) rfl
          have b2 := cellRow hb5 2 (.slice ab M.length cb) rfl
          clear ha5 hb5
          go_wp2_with fail
          go_ret
          exact ⟨rfl, HZ.out.ext H5.out⟩
        · have u2 : decide ((L.length : Int) < (M.length : Int)) = false := decide_eq_false (by omega)
          have u2' : decide (L.length < M.length) = false := decide_eq_false h4
          have hv : cmpT (.mk n s L) (.mk m r M) = 1 := by rw [HEQ.out, if_neg h4]
          rw [hv]
          clear hv HEQ
          go_enter Tryz.func85, Tryz.ntmps85
          go_wp2_with fail
          refine (HO1.out _).mono ?_
          rintro e w4 ⟨rfl, hw4⟩
          have H4 := Lib.hid (hw4)
          clear hw4
          clear a0 a1 a2 b0 b1 b2
          have ha4 := H4.out.heap HA.out (fun h => h)
          have hb4 := H4.out.heap HB.out (fun h => h)
          have a0 := cellRow ha4 0 (.string n) rfl
          have a1 := cellRow ha4 1 (.string s) rfl
          have a2 := cellRow ha4 2 (.slice aa L.length ca) rfl
          have b0 := cellRow hb4 0 (.string m) rfl
          have b1 := cellRow hb4 1 (.string r) rfl
          have b2 := cellRow hb4 2 (.slice ab M.length cb) rfl
          clear ha4 hb4
          go_wp2_with fail
          refine (HO2.out _).mono ?_
          rintro e w5 ⟨rfl, hw5⟩
          have H5 := Lib.hid (H4.out.ext hw5)
          clear hw5
          clear a0 a1 a2 b0 b1 b2
          have ha5 := H5.out.heap HA.out (fun h => h)
          have hb5 := H5.out.heap HB.out (fun h => h)
          have a0 := cellRow ha5 0 (.string n) rfl
          have a1 := cellRow ha5 1 (.string s) rfl
          have a2 := cellRow ha5 2 (.slice aa L.length ca) rfl
          have b0 := cellRow hb5 0 (.string m) rfl
          have b1 := cellRow hb5 1 (.string r) rfl
          have b2 := cellRow hb5 2 (.slice ab M.length cb) rfl
          clear ha5 hb5
          go_wp2_with fail
          go_ret
          exact ⟨rfl, HZ.out.ext H5.out⟩
      rw [if_neg (by simp [h3])] at HEQ
      have u1 : ((L.length : Int) != (M.length : Int)) = false := by simp; omega
      have u1' : decide ((L.length : Int) = (M.length : Int)) = true := decide_eq_true (by omega)
      have u1'' : decide (L.length = M.length) = true := decide_eq_true h3
      have H3 := Lib.hid h3
      clear h3
      go_enter Tryz.func85, Tryz.ntmps85
      go_wp2_with fail
      refine (HO1.out _).mono ?_
      rintro e w4 ⟨rfl, hw4⟩
      have H4 := Lib.hid (hw4)
      clear hw4
      clear a0 a1 a2 b0 b1 b2
      have ha4 := H4.out.heap HA.out (fun h => h)
      have hb4 := H4.out.heap HB.out (fun h => h)
      have a0 := cellRow ha4 0 (.string n) rfl
      have a1 := cellRow ha4 1 (.string s) rfl
      have a2 := cellRow ha4 2 (.slice aa L.length ca) rfl
      have b0 := cellRow hb4 0 (.string m) rfl
      have b1 := cellRow hb4 1 (.string r) rfl
      have b2 := cellRow hb4 2 (.slice ab M.length cb) rfl
      clear ha4 hb4
      go_wp2_with fail
      refine (HO2.out _).mono ?_
      rintro e w5 ⟨rfl, hw5⟩
      have H5 := Lib.hid (H4.out.ext hw5)
      clear hw5
      clear a0 a1 a2 b0 b1 b2
      have ha5 := H5.out.heap HA.out (fun h => h)
      have hb5 := H5.out.heap HB.out (fun h => h)
      have a0 := cellRow ha5 0 (.string n) rfl
      have a1 := cellRow ha5 1 (.string s) rfl
      have a2 := cellRow ha5 2 (.slice aa L.length ca) rfl
      have b0 := cellRow hb5 0 (.string m) rfl
      have b1 := cellRow hb5 1 (.string r) rfl
      have b2 := cellRow hb5 2 (.slice ab M.length cb) rfl
      clear ha5 hb5
      go_wp2_with fail
      clear a0 a1 a2 b0 b1 b2
      have hlL : L.length ≤ 1000000 := by have h1 := length_le_sizes L; have h2 := hsz; rw [size_eq] at h2; exact Nat.le_trans h1 (Nat.le_of_succ_le h2)
      go_loopg [7] L.length (fun gk iv wr => ∃ k : Nat, iv = .int .i64 (k : Int) ∧ gk = L.length - k ∧ k ≤ L.length ∧ Hid (∀ j, j < k → cmpT (tg L j) (tg M j) = 0) ∧ Hid (Ext ((w.alloc (.cells #[.string n, .string s, .slice aa L.length ca] 24)).alloc (.cells #[.string m, .string r, .slice ab M.length cb] 24)) wr))
      case atStart => exact ⟨0, rfl, rfl, Nat.zero_le _, Lib.hid (fun j h => absurd h (Nat.not_lt_zero _)), H5⟩
      case round =>
        obtain ⟨k, rfl, rfl, hk, HC, HE⟩ := hrel
        have HEw := Lib.hid (HZ.out.ext HE.out)
        have haw := HE.out.heap HA.out (fun h => h)
        have hbw := HE.out.heap HB.out (fun h => h)
        have a0 := cellRow haw 0 (.string n) rfl
        have a1 := cellRow haw 1 (.string s) rfl
        have a2 := cellRow haw 2 (.slice aa L.length ca) rfl
        have b0 := cellRow hbw 0 (.string m) rfl
        have b1 := cellRow hbw 1 (.string r) rfl
        have b2 := cellRow hbw 2 (.slice ab M.length cb) rfl
        clear haw hbw
        by_cases hlt : k < L.length
        · have hltM : k < M.length := by have := H3.out; omega
          obtain ⟨g, off, rfl, _, hat⟩ := (HTL.out.1.ext HEw.out).at_ (by omega)
          obtain ⟨g', off', rfl, _, hat'⟩ := (HTL.out.2.ext HEw.out).at_ (by omega)
          obtain ⟨ka, kc, q0, q1, q2, hkid⟩ := hat k hlt
          obtain ⟨ka', kc', p0, p1, p2, hkid'⟩ := hat' k hltM
          have z0 : (0 : Int) ≤ (k : Int) := by omega
          have z1 : (k : Int) < (L.length : Int) := by omega
          have z2 : decide ((k : Int) < (L.length : Int)) = true := decide_eq_true z1
          have z2' : decide (k < L.length) = true := decide_eq_true hlt
          have z3 : (k : Int) < (M.length : Int) := by omega
          have hmem : tg L k ∈ L := by unfold tg; rw [List.getD_eq_getElem?_getD, List.getElem?_eq_getElem hlt]; exact List.getElem_mem hlt
          have hszk : (tg L k).size ≤ 1000000 := by have h1 := size_mem hmem; have h2 := hsz; rw [size_eq] at h2; exact Nat.le_trans h1 (Nat.le_of_succ_le h2)
          have HIX := Lib.hid (fun W (hW : Ext wr W) => HIH.out (tg L k) hmem (tg M k) _ _ S T W ⟨ka, kc, rfl, hkid.ext hW⟩ ⟨ka', kc', rfl, hkid'.ext hW⟩ hszk)
          have HOF := Lib.hid (cmps_of L M k H3.out hlt HC.out)
          have HNX := Lib.hid (fun h : cmpT (tg L k) (tg M k) = 0 => fun j (hj : j < k + 1) => by
            rcases Nat.lt_succ_iff_lt_or_eq.1 hj with h5 | h5
            · exact HC.out j h5
            · rw [h5]; exact h)
          dsimp only [tV] at HIX
          obtain ⟨R, hR⟩ : ∃ R, cmpT (tg L k) (tg M k) = R := ⟨_, rfl⟩
          rw [hR] at HIX
          have HRR := Lib.hid hR
          clear hR hmem hat hat' hkid hkid'
          obtain ⟨x, hx⟩ : ∃ x, tg L k = x := ⟨_, rfl⟩
          obtain ⟨y, hy⟩ : ∃ y, tg M k = y := ⟨_, rfl⟩
          rw [hx] at q0 q1 q2 HIX
          rw [hy] at p0 p1 p2 HIX
          clear hx hy hszk hltM
          rw [← Nat.add_assoc] at q1 q2 p1 p2
          have xq0 := fun x : XW wr => x.ext.cell q0 (fun h => h)
          have xq1 := fun x : XW wr => x.ext.cell q1 (fun h => h)
          have xq2 := fun x : XW wr => x.ext.cell q2 (fun h => h)
          have xp0 := fun x : XW wr => x.ext.cell p0 (fun h => h)
          have xp1 := fun x : XW wr => x.ext.cell p1 (fun h => h)
          have xp2 := fun x : XW wr => x.ext.cell p2 (fun h => h)
          have xa2 := fun x : XW wr => x.ext.cell a2 (fun h => h)
          have xb2 := fun x : XW wr => x.ext.cell b2 (fun h => h)
          have hrfs := Upd.refl (fun _ => False) wr
          clear q0 q1 q2 p0 p1 p2 a0 a1 b0 b1 b2
          go_wp2_with fail
          clear a2
          refine wp_region_ext wr (by assumption) (by kernel_rfl) (by kernel_rfl) ?_
          repeat (first | go_big_quiet_skip | (go_big_quiet_want; go_big_quiet_op; first | go_big_quiet_on | (apply Exists.intro; refine ⟨fun x => ?_, ?_⟩; (go_at_call 85; exact XW.call (HIX.out x.val x.ext)); go_big_quiet_on)))
          refine wpQuiet_nil ?_
          rintro w8 ⟨⟨_, hyw8⟩, rfl⟩
          try dsimp only
          have HE8 := Lib.hid (HE.out.ext hyw8)
          clear xq0 xq1 xq2 xp0 xp1 xp2 xa2 xb2 hrfs hyw8 HIX
          by_cases hz : R = 0
          · have hz1 : (R != 0) = false := by simp [hz]
            have HN := Lib.hid (HNX.out (HRR.out.trans hz))
            have hzz := Lib.hid hz
            clear hz
            go_wp2_with fail
            go_roundg (L.length - (k + 1))
            case measure => omega
            case rel => exact ⟨k + 1, by go_num, rfl, by omega, HN, HE8⟩
          · have hz1 : (R != 0) = true := by simpa using hz
            have HV : Hid (cmpT (.mk n s L) (.mk m r M) = R) := Lib.hid (by rw [HEQ.out, HOF.out (by show cmpT (tg L k) (tg M k) ≠ 0; rw [HRR.out]; exact hz)]; exact HRR.out)
            have hzz := Lib.hid hz
            clear hz
            go_wp2_with fail
            go_ret
            rw [HV.out]
            exact ⟨rfl, HZ.out.ext HE8.out⟩
        · obtain rfl : k = L.length := by omega
          have HV : Hid (cmpT (.mk n s L) (.mk m r M) = 0) := Lib.hid (by rw [HEQ.out]; exact cmps_all L M H3.out HC.out)
          go_wp2_with fail
          go_ret
          rw [HV.out]
          exact ⟨rfl, HEw.out⟩

end Go.Proofs.YtlkcjmaiahnodaaGreatDoor

/- Same of the reference. -/
namespace Go.Proofs.YtlkcjmaiahnodaaGreatDoor
open Go.RowKit Go.Hw Go
set_option linter.unusedVariables false
set_option linter.unusedSimpArgs false

open Tm
set_option maxRecDepth 100000 in
set_option maxHeartbeats 2000000 in
theorem same_x (t u : Tm) (v v' : Value) (S T : Nat → Prop) (w : World) (hR : TmR S w t v) (hR' : TmR T w u v') (hsz : t.size ≤ 1000000) :
    Calls Tryz.prog 25 #[v, v'] w fun e w' => e = .returned (.bool (decide (t = u))) ∧ Ext w w' := by
  have HR := Lib.hid (And.intro hR hR')
  obtain ⟨aa, ca, rfl, hT⟩ := hR
  obtain ⟨ab, cb, rfl, hT'⟩ := hR'
  have HC := Lib.hid (fun W (hW : Ext w W) => compare_x t u _ _ S T W (HR.out.1.ext hW) (HR.out.2.ext hW) hsz)
  dsimp only [tV] at HC ⊢
  have HZ := Lib.hid (((Upd.refl (fun _ => False) w).alloc (.cells #[.string t.name, .string t.sort, .slice aa t.kids.length ca] 24)).alloc (.cells #[.string u.name, .string u.sort, .slice ab u.kids.length cb] 24))
  have HA := Lib.hid (allocOld (alloc0 w (.cells #[.string t.name, .string t.sort, .slice aa t.kids.length ca] 24)) (.cells #[.string u.name, .string u.sort, .slice ab u.kids.length cb] 24))
  have HB := Lib.hid (alloc_at (w.alloc (.cells #[.string t.name, .string t.sort, .slice aa t.kids.length ca] 24)) (.cells #[.string u.name, .string u.sort, .slice ab u.kids.length cb] 24) (n := w.heap.size + 1) (by simp))
  have a0 := cellRow HA.out 0 (.string t.name) rfl
  have a1 := cellRow HA.out 1 (.string t.sort) rfl
  have a2 := cellRow HA.out 2 (.slice aa t.kids.length ca) rfl
  have b0 := cellRow HB.out 0 (.string u.name) rfl
  have b1 := cellRow HB.out 1 (.string u.sort) rfl
  have b2 := cellRow HB.out 2 (.slice ab u.kids.length cb) rfl
  have hz : decide (t = u) = (cmpT t u == 0) := by
    rw [Bool.eq_iff_iff, decide_eq_true_eq, beq_iff_eq, cmpT_zero]
  rw [hz]
  clear hz hT hT'
  generalize cmpT t u = Z at *
  go_enter Tryz.func25, Tryz.ntmps25
  go_wp2_with fail
  refine (HC.out _ HZ.out).mono ?_
  rintro e w4 ⟨rfl, hw4⟩
  have H4 := Lib.hid (HZ.out.ext hw4)
  clear hw4 a0 a1 a2 b0 b1 b2
  go_wp2_with fail
  go_ret
  exact ⟨rfl, H4.out⟩

end Go.Proofs.YtlkcjmaiahnodaaGreatDoor

/- add of the reference. -/
namespace Go.Proofs.YtlkcjmaiahnodaaGreatDoor
open Go.RowKit Go.Hw Go
set_option linter.unusedVariables false
set_option linter.unusedSimpArgs false

open Tm
theorem infoF : (Tryz.prog.info? 116).map (fun i => (i.zero, i.size, i.bytes)) = some (some (.agg #[.string ⟨#[]⟩, .string ⟨#[]⟩]), 2, 32) := by kernel_rfl
theorem ins_fir {S : Nat → Prop} {base e : Nat} {W : World} {v : Value} {l : List Vd} {f : Vd} {k : Nat} (hk : k ≤ l.length) (h : W.ownsRow base e 2 v (k + 1 + (l.length - k)) (fCells (l.take k) ++ (fCells [f] ++ fCells (l.drop k)))) :
    FiR (fun j => S j ∨ base ≤ j) W v (l.take k ++ f :: l.drop k) := by
  have h1 : (l.take k ++ f :: l.drop k).length = k + 1 + (l.length - k) := by simp only [List.length_append, List.length_take, List.length_cons, List.length_drop]; omega
  have h2 : fCells (l.take k ++ f :: l.drop k) = fCells (l.take k) ++ (fCells [f] ++ fCells (l.drop k)) := by
    rw [fCells_append, show f :: l.drop k = [f] ++ l.drop k from rfl, fCells_append]
  unfold FiR
  rw [h1, h2]
  exact SlR.weaken (SlR.of_own h) (fun j hj => .inr (h.lt j hj).1)
set_option maxRecDepth 100000 in
set_option maxHeartbeats 2000000 in
theorem add_x (l : List Vd) (f : Vd) (v : Value) (S : Nat → Prop) (w : World) (hR : FiR S w v l) (hl : l.length ≤ 100000) :
    Calls Tryz.prog 148 #[v, .agg #[.string f.1, .string f.2]] w fun e w' => ∃ r, e = .returned (.tuple #[r, .bool (vadd l f).2]) ∧ FiR (fun k => S k ∨ w.heap.size ≤ k) w' r (vadd l f).1 ∧ Ext w w' := by
  have HR := Lib.hid hR
  obtain ⟨a, cap, rfl⟩ := hR.shape
  have HZ := Lib.hid ((Upd.refl (fun _ => False) w).alloc (.cells #[.string f.1, .string f.2] 116))
  have HB := Lib.hid (alloc0 w (.cells #[.string f.1, .string f.2] 116))
  have HVA := Lib.hid (vadd_ix f l)
  clear hR
  go_enter Tryz.func148, Tryz.ntmps148
  go_wp2_with fail
  go_loopg [6] l.length (fun gk iv wr => ∃ k : Nat, iv = .int .i64 (k : Int) ∧ gk = l.length - k ∧ k ≤ l.length ∧ Hid (∀ j, j < k → blt (vg l j).1 f.1 = true) ∧ Hid (Ext w wr) ∧ Hid (wr.heap[w.heap.size]? = some (.cells #[.string f.1, .string f.2] 116 (0, 0))))
  case atStart => exact ⟨0, rfl, rfl, Nat.zero_le _, Lib.hid (fun j h => absurd h (Nat.not_lt_zero _)), HZ, HB⟩
  case round =>
    obtain ⟨k, rfl, rfl, hk, HC, HE, HBr⟩ := hrel
    have f0 := cellRow HBr.out 0 (.string f.1) rfl
    have f1 := cellRow HBr.out 1 (.string f.2) rfl
    by_cases hlt : k < l.length
    · obtain ⟨g, off, rfl, hat⟩ := (HR.out.ext HE.out).at_ (by omega)
      obtain ⟨q0, q1⟩ := hat k hlt
      have hcap : k ≤ cap := Nat.le_trans hk (SlR.le_cap HR.out rfl)
      have z0 : (0 : Int) ≤ (k : Int) := by omega
      have z1 : (k : Int) < (l.length : Int) := by omega
      have z2 : decide ((k : Int) < (l.length : Int)) = true := decide_eq_true z1
      have z2' : decide (k < l.length) = true := decide_eq_true hlt
      have t1 := bless (vg l k).1 f.1
      have hix := vix_uniq l f k hk HC.out
      have hnx : blt (vg l k).1 f.1 = true → ∀ j, j < k + 1 → blt (vg l j).1 f.1 = true := fun h j hj => by
        rcases Nat.lt_succ_iff_lt_or_eq.1 hj with h5 | h5
        · exact HC.out j h5
        · rw [h5]; exact h
      have HIX := Lib.hid hix
      have HNX := Lib.hid hnx
      clear hix hnx hat
      obtain ⟨x, hx⟩ : ∃ x, vg l k = x := ⟨_, rfl⟩
      have HXX := Lib.hid hx
      rw [hx] at q0 q1 t1 HIX HNX
      clear hx
      cases hb : blt x.1 f.1
      · rw [hb] at t1
        have HVX : Hid (vix l f = k) := Lib.hid (HIX.out (fun _ => hb))
        clear hb
        have HEQ := Lib.hid HVA.out
        rw [HVX.out] at HEQ
        go_wp2_with fail
        go_quiet (fail)
        generalize hwq : wr.drewN nq = wq at *
        have HEq : Hid (Ext w wq) := Lib.hid (by rw [← hwq]; exact HE.out.drewN' nq)
        have HBq : Hid (wq.heap[w.heap.size]? = some (.cells #[.string f.1, .string f.2] 116 (0, 0))) := Lib.hid (by rw [← hwq]; exact HBr.out)
        have q0' : wq.cell? ⟨g, off + k * 2, none⟩ = some (.string x.1) := by rw [← hwq]; exact q0
        have q1' : wq.cell? ⟨g, off + k * 2 + 1, none⟩ = some (.string x.2) := by rw [← hwq]; exact q1
        clear hwq HE HBr q0 q1 f0 f1
        have f0 := cellRow HBq.out 0 (.string f.1) rfl
        have f1 := cellRow HBq.out 1 (.string f.2) rfl
        by_cases he : x.1 = f.1
        · have t3 : (x.1.toList == f.1.toList) = true := by rw [he]; simp
          have HV2 : Hid (vadd l f = (l, decide (x.2 = f.2))) := Lib.hid (by rw [HEQ.out, if_pos ⟨hlt, by rw [HXX.out]; exact he⟩, HXX.out])
          clear he
          have t4 : (x.2.toList == f.2.toList) = decide (x.2 = f.2) := by
            rw [Bool.eq_iff_iff, beq_iff_eq, decide_eq_true_eq]
            exact ⟨fun e => ba_list (by rw [Lib.toList_data, Lib.toList_data] at e; exact e), fun e => by rw [e]⟩
          obtain ⟨BB, hBB⟩ : ∃ b, decide (x.2 = f.2) = b := ⟨_, rfl⟩
          rw [hBB] at t4 HV2
          clear hBB
          go_wp2_with fail
          go_quiet (fail)
          go_wp2_with fail
          go_quiet (fail)
          go_wp2_with fail
          go_ret2
          rw [HV2.out]
          exact ⟨_, rfl, SlR.weaken (SlR.drewN (SlR.drewN (FiR.ext HR.out HEq.out) _) _) (fun k h => .inl h), (HEq.out.drewN' _).drewN' _⟩
        · have t3 : (x.1.toList == f.1.toList) = false := by
            rw [beq_eq_false_iff_ne]
            intro e
            exact he (ba_list (by rw [Lib.toList_data, Lib.toList_data] at e; exact e))
          have HV2 : Hid (vadd l f = (l.take k ++ f :: l.drop k, true)) := Lib.hid (by rw [HEQ.out, if_neg (fun h => he (by rw [← HXX.out]; exact h.2))])
          clear he
          go_wp2_with fail
          go_quiet (fail)
          generalize hwq : wq.drewN nq = wz at *
          have HEz : Hid (Ext w wz) := Lib.hid (by rw [← hwq]; exact HEq.out.drewN' nq)
          have HBz : Hid (wz.heap[w.heap.size]? = some (.cells #[.string f.1, .string f.2] 116 (0, 0))) := Lib.hid (by rw [← hwq]; exact HBq.out)
          clear hwq HEq HBq q0' q1' f0 f1 t1 t3
          have f0 := cellRow HBz.out 0 (.string f.1) rfl
          have f1 := cellRow HBz.out 1 (.string f.2) rfl
          have xf0 := fun x : XW wz => x.ext.cell f0 (fun h => h)
          have xf1 := fun x : XW wz => x.ext.cell f1 (fun h => h)
          clear f0 f1
          go_wp2_with fail
          refine wp_region_parF (α := Option Addr × Nat) 7 [] 7 [(7, 2), (8, 2)] [[], [], [], [1, 2], [0, 1, 2, 3], [], [5], [0, 1, 2, 3, 4, 5, 6], [0, 1, 2, 3, 4, 5, 6, 7]]
            [some ⟨fun x => .slice x.1 0 0, fun x W => W.ownsRow w.heap.size 116 2 (.slice x.1 0 0) 0 [], fun x W W' h hE => own_kept h hE (fun _ _ h => h)⟩, none, none, none, some ⟨fun x => .slice x.1 k x.2, fun x W => W.ownsRow w.heap.size 116 2 (.slice x.1 k x.2) k (fCells (l.take k)), fun x W W' h hE => own_kept h hE (fun _ _ h => h)⟩, none, some ⟨fun x => .slice x.1 1 x.2, fun x W => FiR (fun j => w.heap.size ≤ j) W (.slice x.1 1 x.2) [f], fun x W W' h hE => FiR.ext h hE⟩]
            [true, false, false, false, true, false, true] (by kernel_rfl) (by kernel_rfl) rfl (fun _ _ d _ _ h => by cases d <;> exact h) ?_
          simp only [List.take_succ_cons, List.take_zero, pickO, List.getElem?_cons_zero, List.getElem?_cons_succ]
          refine can_mem _ rfl (by go_simp) (fun W hW hG K hK => ?_) (fun K zz0 hK => ?_)
          · go_simp
            exact hK (some ⟨W.heap.size, 0, none⟩, 0) _ ((Upd.refl (fun _ => False) W).alloc _) (World.ownsRow_lit (base := w.heap.size) (e := 116) (size := 2) W #[] 0 (Nat.le_trans HEz.out.size hW.size) (by unfold maxLen; omega) (by simp))
          refine hK _ ?_; clear hK K
          dsimp only
          iterate 3 (refine can_pure0 rfl (fun K hK => ?_); go_simp; refine hK _ ?_; clear hK K)
          obtain ⟨iS, hi, hz0, hz1, hz2⟩ := info_parts infoF
          refine can_mem _ rfl (by go_simp) (fun W hW hG K hK => ?_) (fun K zz4 hK => ?_)
          · have g0 := hG _ (List.mem_singleton.2 rfl) (by show (0 : Nat) ∈ _; decide)
            have hsl : SlR S W 2 (.slice (some ⟨g, off, none⟩) k cap) k (fCells (l.take k)) := by
              have h := (HR.out.ext HEz.out).ext hW |>.to rfl k hk
              rw [fCells_take] at h
              exact h
            refine step_append_new _ (.tmp 47) (.tmp 50) 111 rfl w.heap.size 116 iS (.agg #[.string ⟨#[]⟩, .string ⟨#[]⟩]) 2 32 Tryz.underlying111 hi hz0 hz1 hz2 rfl (by decide) _ rfl g0 S _ k _ rfl hsl (fCells_one _) (by unfold maxLen; omega) (by omega) (Nat.le_trans HEz.out.size hW.size) ?_
            intro v' w' hE4 hO4
            obtain ⟨p4, c4, rfl⟩ := own_shape hO4
            exact hK (p4, c4) _ hE4 hO4
          refine hK _ ?_; clear hK K
          dsimp only
          refine can_pure0 rfl (fun K hK => ?_); go_simp; refine hK _ ?_; clear hK K
          refine can_mem _ rfl (by go_simp) (fun W hW hG K hK => ?_) (fun K zz6 hK => ?_)
          · go_simp
            exact hK (some ⟨W.heap.size, 0, none⟩, 1) _ ((Upd.refl (fun _ => False) W).alloc _) (SlR.weaken (SlR.of_own (World.ownsRow_lit (base := w.heap.size) (e := 116) (size := 2) W #[.string f.1, .string f.2] 1 (Nat.le_trans HEz.out.size hW.size) (by unfold maxLen; omega) (by simp))) (fun k hk => by injection hk with hk; rw [← hk]; exact Nat.le_trans HEz.out.size hW.size))
          refine hK _ ?_; clear hK K
          dsimp only
          refine can_end (fun w8 hW hG => ?_)
          have g4 := hG _ (List.mem_append_left _ (List.mem_append_right _ (List.mem_singleton.2 rfl)))
          have g6 := hG _ (List.mem_append_right _ (List.mem_singleton.2 rfl))
          dsimp only at g4 g6
          have hW8 : Hid (Ext w w8) := Lib.hid (HEz.out.trans hW)
          clear hG hW
          refine mix_two (fun K hK => ?_)
          rw [if_pos (by go_simp)]
          refine step_append_sl _ (.tmp 51) (.tmp 53) 111 rfl w.heap.size 116 iS (.agg #[.string ⟨#[]⟩, .string ⟨#[]⟩]) 2 32 Tryz.underlying111 hi hz0 hz1 hz2 rfl (by decide) (.slice zz4.1 k zz4.2) k _ rfl g4 (fun j => w.heap.size ≤ j) (.slice zz6.1 1 zz6.2) 1 _ rfl g6 (fCells_one _) (by unfold maxLen; omega) (by omega) hW8.out.size ?_
          intro v7 w9 hG7
          refine hK _ _ ?_; clear hK K
          refine mix_two (fun K hK => ?_); go_simp; refine hK _ _ ?_; clear hK K
          simp only [wpMix]
          have hW9 : Hid (Ext w w9) := Lib.hid (hW8.out.trans' hG7.upd (fun j hj h => absurd (g4.lt j h).1 (by omega)))
          have g9 := Lib.hid hG7.own
          clear hG7 g4 g6 hW8
          obtain ⟨p7, c7, rfl⟩ := own_shape g9.out
          have hR9 : SlR S w9 2 (.slice (some ⟨g, off, none⟩) l.length cap) l.length (fCells l) := HR.out.ext hW9.out
          have hs9 := hW9.out.size
          go_wp2_with (with_reducible (refine stop_at (o := ⟨some 58, _, _, _, _, _⟩) ?_))
          refine Stop.go ?_
          refine wpList_slice_from _ rfl 111 _ _ rfl 2 (by kernel_rfl) (fun _ => by kernel_rfl) _ _ _ _ rfl hR9 k .i64 (k : Int) rfl rfl hk (fun sv hsv => ?_)
          rw [fCells_drop] at hsv
          obtain ⟨ps, cs, rfl⟩ := hsv.shape
          go_wp2_with (at_builtin; refine wpList_append_sl _ rfl (.tmp 55) (.tmp 58) 111 rfl w.heap.size 116 iS (.agg #[.string ⟨#[]⟩, .string ⟨#[]⟩]) 2 32 Tryz.underlying111 hi hz0 hz1 hz2 rfl (by decide) (.slice p7 (k + 1) c7) (k + 1) _ rfl g9.out S (.slice ps (l.length - k) cs) (l.length - k) (fCells (l.drop k)) rfl hsv (fCells_one _) ?c3 ?c4 hs9 ?_)
          case c3 => unfold maxLen; omega
          case c4 => omega
          intro v10 w10 hG
          have HON := Lib.hid hG.own
          have HEN : Hid (Ext w w10) := Lib.hid (hW9.out.trans' hG.upd (fun i hi e => by have := (g9.out.lt i e).1; omega))
          clear hG hR9 hs9 hsv
          go_wp2_with fail
          go_ret2
          rw [HV2.out]
          exact ⟨v10, rfl, ins_fir hk HON.out, HEN.out⟩
      · rw [hb] at t1
        have HN := Lib.hid (HNX.out hb)
        clear hb
        go_wp2_with fail
        go_quiet (fail)
        go_wp2_with fail
        go_roundg (l.length - (k + 1))
        case measure => omega
        case rel => exact ⟨k + 1, by go_num, rfl, by omega, HN, Lib.hid (HE.out.drewN' nq), Lib.hid HBr.out⟩
    · have hkl : k = l.length := by omega
      have HVX : Hid (vix l f = k) := Lib.hid (vix_uniq l f k hk HC.out (fun h => absurd h hlt))
      have HV2 : Hid (vadd l f = (l.take k ++ f :: l.drop k, true)) := Lib.hid (by rw [HVA.out, HVX.out, if_neg (fun h => absurd h.1 hlt)])
      have z0 : (0 : Int) ≤ (k : Int) := by omega
      have z2 : decide ((k : Int) < (l.length : Int)) = false := decide_eq_false (by omega)
      have z2' : decide (k < l.length) = false := decide_eq_false hlt
      have hcap : k ≤ cap := Nat.le_trans hk (SlR.le_cap HR.out rfl)
      clear hkl
      go_wp2_with fail
      go_quiet (fail)
      generalize hwq : wr.drewN nq = wq at *
      have HEq : Hid (Ext w wq) := Lib.hid (by rw [← hwq]; exact HE.out.drewN' nq)
      have HBq : Hid (wq.heap[w.heap.size]? = some (.cells #[.string f.1, .string f.2] 116 (0, 0))) := Lib.hid (by rw [← hwq]; exact HBr.out)
      clear hwq HE HBr f0 f1
      go_wp2_with fail
      go_quiet (fail)
      generalize hwq : wq.drewN nq = wz at *
      have HEz : Hid (Ext w wz) := Lib.hid (by rw [← hwq]; exact HEq.out.drewN' nq)
      have HBz : Hid (wz.heap[w.heap.size]? = some (.cells #[.string f.1, .string f.2] 116 (0, 0))) := Lib.hid (by rw [← hwq]; exact HBq.out)
      clear hwq HEq HBq
      have f0 := cellRow HBz.out 0 (.string f.1) rfl
      have f1 := cellRow HBz.out 1 (.string f.2) rfl
      have xf0 := fun x : XW wz => x.ext.cell f0 (fun h => h)
      have xf1 := fun x : XW wz => x.ext.cell f1 (fun h => h)
      clear f0 f1
      go_wp2_with fail
      refine wp_region_parF (α := Option Addr × Nat) 7 [] 7 [(7, 2), (8, 2)] [[], [], [], [1, 2], [0, 1, 2, 3], [], [5], [0, 1, 2, 3, 4, 5, 6], [0, 1, 2, 3, 4, 5, 6, 7]]
        [some ⟨fun x => .slice x.1 0 0, fun x W => W.ownsRow w.heap.size 116 2 (.slice x.1 0 0) 0 [], fun x W W' h hE => own_kept h hE (fun _ _ h => h)⟩, none, none, none, some ⟨fun x => .slice x.1 k x.2, fun x W => W.ownsRow w.heap.size 116 2 (.slice x.1 k x.2) k (fCells (l.take k)), fun x W W' h hE => own_kept h hE (fun _ _ h => h)⟩, none, some ⟨fun x => .slice x.1 1 x.2, fun x W => FiR (fun j => w.heap.size ≤ j) W (.slice x.1 1 x.2) [f], fun x W W' h hE => FiR.ext h hE⟩]
        [true, false, false, false, true, false, true] (by kernel_rfl) (by kernel_rfl) rfl (fun _ _ d _ _ h => by cases d <;> exact h) ?_
      simp only [List.take_succ_cons, List.take_zero, pickO, List.getElem?_cons_zero, List.getElem?_cons_succ]
      refine can_mem _ rfl (by go_simp) (fun W hW hG K hK => ?_) (fun K zz0 hK => ?_)
      · go_simp
        exact hK (some ⟨W.heap.size, 0, none⟩, 0) _ ((Upd.refl (fun _ => False) W).alloc _) (World.ownsRow_lit (base := w.heap.size) (e := 116) (size := 2) W #[] 0 (Nat.le_trans HEz.out.size hW.size) (by unfold maxLen; omega) (by simp))
      refine hK _ ?_; clear hK K
      dsimp only
      iterate 3 (refine can_pure0 rfl (fun K hK => ?_); go_simp; refine hK _ ?_; clear hK K)
      obtain ⟨iS, hi, hz0, hz1, hz2⟩ := info_parts infoF
      refine can_mem _ rfl (by go_simp) (fun W hW hG K hK => ?_) (fun K zz4 hK => ?_)
      · have g0 := hG _ (List.mem_singleton.2 rfl) (by show (0 : Nat) ∈ _; decide)
        have hsl : SlR S W 2 (.slice a k cap) k (fCells (l.take k)) := by
          have h := (HR.out.ext HEz.out).ext hW |>.to rfl k hk
          rw [fCells_take] at h
          exact h
        refine step_append_new _ (.tmp 47) (.tmp 50) 111 rfl w.heap.size 116 iS (.agg #[.string ⟨#[]⟩, .string ⟨#[]⟩]) 2 32 Tryz.underlying111 hi hz0 hz1 hz2 rfl (by decide) _ rfl g0 S _ k _ rfl hsl (fCells_one _) (by unfold maxLen; omega) (by omega) (Nat.le_trans HEz.out.size hW.size) ?_
        intro v' w' hE4 hO4
        obtain ⟨p4, c4, rfl⟩ := own_shape hO4
        exact hK (p4, c4) _ hE4 hO4
      refine hK _ ?_; clear hK K
      dsimp only
      refine can_pure0 rfl (fun K hK => ?_); go_simp; refine hK _ ?_; clear hK K
      refine can_mem _ rfl (by go_simp) (fun W hW hG K hK => ?_) (fun K zz6 hK => ?_)
      · go_simp
        exact hK (some ⟨W.heap.size, 0, none⟩, 1) _ ((Upd.refl (fun _ => False) W).alloc _) (SlR.weaken (SlR.of_own (World.ownsRow_lit (base := w.heap.size) (e := 116) (size := 2) W #[.string f.1, .string f.2] 1 (Nat.le_trans HEz.out.size hW.size) (by unfold maxLen; omega) (by simp))) (fun k hk => by injection hk with hk; rw [← hk]; exact Nat.le_trans HEz.out.size hW.size))
      refine hK _ ?_; clear hK K
      dsimp only
      refine can_end (fun w8 hW hG => ?_)
      have g4 := hG _ (List.mem_append_left _ (List.mem_append_right _ (List.mem_singleton.2 rfl)))
      have g6 := hG _ (List.mem_append_right _ (List.mem_singleton.2 rfl))
      dsimp only at g4 g6
      have hW8 : Hid (Ext w w8) := Lib.hid (HEz.out.trans hW)
      clear hG hW
      refine mix_two (fun K hK => ?_)
      rw [if_pos (by go_simp)]
      refine step_append_sl _ (.tmp 51) (.tmp 53) 111 rfl w.heap.size 116 iS (.agg #[.string ⟨#[]⟩, .string ⟨#[]⟩]) 2 32 Tryz.underlying111 hi hz0 hz1 hz2 rfl (by decide) (.slice zz4.1 k zz4.2) k _ rfl g4 (fun j => w.heap.size ≤ j) (.slice zz6.1 1 zz6.2) 1 _ rfl g6 (fCells_one _) (by unfold maxLen; omega) (by omega) hW8.out.size ?_
      intro v7 w9 hG7
      refine hK _ _ ?_; clear hK K
      refine mix_two (fun K hK => ?_); go_simp; refine hK _ _ ?_; clear hK K
      simp only [wpMix]
      have hW9 : Hid (Ext w w9) := Lib.hid (hW8.out.trans' hG7.upd (fun j hj h => absurd (g4.lt j h).1 (by omega)))
      have g9 := Lib.hid hG7.own
      clear hG7 g4 g6 hW8
      obtain ⟨p7, c7, rfl⟩ := own_shape g9.out
      have hR9 : SlR S w9 2 (.slice a l.length cap) l.length (fCells l) := HR.out.ext hW9.out
      have hs9 := hW9.out.size
      go_wp2_with (with_reducible (refine stop_at (o := ⟨some 58, _, _, _, _, _⟩) ?_))
      refine Stop.go ?_
      refine wpList_slice_from _ rfl 111 _ _ rfl 2 (by kernel_rfl) (fun _ => by kernel_rfl) _ _ _ _ rfl hR9 k .i64 (k : Int) rfl rfl hk (fun sv hsv => ?_)
      rw [fCells_drop] at hsv
      obtain ⟨ps, cs, rfl⟩ := hsv.shape
      go_wp2_with (at_builtin; refine wpList_append_sl _ rfl (.tmp 55) (.tmp 58) 111 rfl w.heap.size 116 iS (.agg #[.string ⟨#[]⟩, .string ⟨#[]⟩]) 2 32 Tryz.underlying111 hi hz0 hz1 hz2 rfl (by decide) (.slice p7 (k + 1) c7) (k + 1) _ rfl g9.out S (.slice ps (l.length - k) cs) (l.length - k) (fCells (l.drop k)) rfl hsv (fCells_one _) ?c3 ?c4 hs9 ?_)
      case c3 => unfold maxLen; omega
      case c4 => omega
      intro v10 w10 hG
      have HON := Lib.hid hG.own
      have HEN : Hid (Ext w w10) := Lib.hid (hW9.out.trans' hG.upd (fun i hi e => by have := (g9.out.lt i e).1; omega))
      clear hG hR9 hs9 hsv
      go_wp2_with fail
      go_ret2
      rw [HV2.out]
      exact ⟨v10, rfl, ins_fir hk HON.out, HEN.out⟩

end Go.Proofs.YtlkcjmaiahnodaaGreatDoor

/- vars of the reference. -/
namespace Go.Proofs.YtlkcjmaiahnodaaGreatDoor
open Go.RowKit Go.Hw Go
set_option linter.unusedVariables false
set_option linter.unusedSimpArgs false

open Tm
theorem vadd_len (f : Vd) : ∀ l : List Vd, (vadd l f).1.length ≤ l.length + 1
  | [] => by simp [vadd]
  | g :: l => by
    simp only [vadd]
    split
    · simp only [List.length_cons]; have := vadd_len f l; omega
    · split <;> simp
theorem vFold_len : ∀ (fs l : List Vd), (vFold l fs).1.length ≤ l.length + fs.length
  | [], l => by simp [vFold]
  | f :: fs, l => by
    simp only [vFold]
    split
    · have h1 := vFold_len fs (vadd l f).1
      have h2 := vadd_len f l
      simp only [List.length_cons]; omega
    · simp
theorem vFold_app : ∀ (fs gs l : List Vd), vFold l (fs ++ gs) = if (vFold l fs).2 = true then vFold (vFold l fs).1 gs else vFold l fs
  | [], gs, l => by simp [vFold]
  | f :: fs, gs, l => by
    by_cases h : (vadd l f).2 = true
    · have e1 : ∀ x, vFold l (f :: x) = vFold (vadd l f).1 x := fun x => by rw [vFold, if_pos h]
      rw [List.cons_append, e1, e1]; exact vFold_app fs gs _
    · have e1 : ∀ x, vFold l (f :: x) = (l, false) := fun x => by rw [vFold, if_neg h]
      rw [List.cons_append, e1, e1]; rfl
/-- variables have no parts -/
def VL (t : Tm) : Prop := ∀ x ∈ sbts t, x.sort ≠ nul → x.kids = []
theorem VL.kid {t x : Tm} (h : VL t) (hx : x ∈ t.kids) : VL x := fun y hy => h y (mem_sbts_kid hx hy)
theorem vl_node (n : By) (L : List Tm) : vl (sbts (.mk n nul L)) = L.flatMap (fun x => vl (sbts x)) := by
  rw [sbts_eq]
  have h1 : ∀ M : List Tm, vl (M.flatMap sbts) = M.flatMap (fun x => vl (sbts x)) := by
    intro M
    induction M with
    | nil => rfl
    | cons x M ih => rw [List.flatMap_cons, vl_append, ih, List.flatMap_cons]
  have h2 : vl [Tm.mk n nul L] = [] := rfl
  rw [← List.singleton_append, vl_append, h2, h1]; rfl
theorem vl_leaf (n s : By) (h : s ≠ nul) : vl (sbts (.mk n s [])) = [(n, s)] := by
  rw [sbts_eq]
  simp [vl, Tm.sort, Tm.name, Tm.kids, h]
theorem vl_len (t : Tm) : (vl (sbts t)).length ≤ t.size := by
  have h1 : (vl (sbts t)).length ≤ (sbts t).length := List.length_filterMap_le _ _
  have h2 : (sbts t).length = t.size := by rw [sbts, List.length_map, nodesD_len]
  omega
abbrev vls (L : List Tm) : List Vd := L.flatMap fun x => vl (sbts x)
theorem vls_len : ∀ L : List Tm, (vls L).length ≤ sizes L
  | [] => by simp [sizes]
  | x :: L => by
    have h1 := vl_len x
    have h2 := vls_len L
    simp only [vls, List.flatMap_cons, List.length_append, sizes] at h2 ⊢
    omega
theorem tk_snoc (L : List Tm) (k : Nat) (h : k < L.length) : L.take (k + 1) = L.take k ++ [tg L k] := by
  rw [List.take_add_one]
  have : L[k]?.toList = [tg L k] := by unfold tg; rw [List.getD_eq_getElem?_getD, List.getElem?_eq_getElem h]; rfl
  rw [this]
theorem tg_mem (L : List Tm) (k : Nat) (h : k < L.length) : tg L k ∈ L := by
  unfold tg; rw [List.getD_eq_getElem?_getD, List.getElem?_eq_getElem h]; exact List.getElem_mem h
theorem vls_snoc (L : List Tm) (k : Nat) (h : k < L.length) : vls (L.take (k + 1)) = vls (L.take k) ++ vl (sbts (tg L k)) := by
  rw [tk_snoc L k h]
  unfold vls
  rw [List.flatMap_append, List.flatMap_cons, List.flatMap_nil, List.append_nil]
theorem kid_room (L : List Tm) (k : Nat) (h : k < L.length) : (vls (L.take k)).length + (tg L k).size ≤ sizes L := by
  have h1 := vls_len (L.take k)
  have h2 : sizes L = sizes (L.take (k + 1)) + sizes (L.drop (k + 1)) := by rw [← sizes_append, List.take_append_drop]
  rw [tk_snoc L k h, sizes_append] at h2
  have h3 : sizes [tg L k] = (tg L k).size := by simp [sizes]
  omega
theorem vls_fold (L : List Tm) (l cur : List Vd) (k : Nat) (h : k < L.length) (hc : vFold l (vls (L.take k)) = (cur, true)) :
    (∀ m, vFold cur (vl (sbts (tg L k))) = (m, true) → vFold l (vls (L.take (k + 1))) = (m, true)) ∧
    ((vFold cur (vl (sbts (tg L k)))).2 = false → (vFold l (vls L)).2 = false) := by
  have h1 : vFold l (vls (L.take (k + 1))) = vFold cur (vl (sbts (tg L k))) := by
    rw [vls_snoc L k h, vFold_app, hc, if_pos rfl]
  refine ⟨fun m hm => by rw [h1, hm], fun hf => ?_⟩
  have h2 : vls L = vls (L.take (k + 1)) ++ vls (L.drop (k + 1)) := by
    unfold vls
    rw [← List.flatMap_append, List.take_append_drop]
  rw [h2, vFold_app, h1, if_neg (by rw [hf]; simp)]
  exact hf
set_option maxRecDepth 100000 in
set_option maxHeartbeats 2000000 in
theorem vars_x : ∀ (t : Tm) (l : List Vd) (v v' : Value) (S T : Nat → Prop) (w : World), TmR T w t v' → FiR S w v l → VL t → l.length + t.size ≤ 100000 →
    Calls Tryz.prog 84 #[v, v'] w fun e w' => ∃ r, e = .returned (.tuple #[r, .bool (vFold l (vl (sbts t))).2]) ∧ ((vFold l (vl (sbts t))).2 = true → FiR (fun k => S k ∨ w.heap.size ≤ k) w' r (vFold l (vl (sbts t))).1) ∧ Ext w w' := by
  refine Tm.ind (fun nm so L ih => ?_)
  intro l v v' S T w hT hF hV hsz
  obtain ⟨a, cap, rfl, hT⟩ := hT
  dsimp only [tV, Tm.name, Tm.sort, Tm.kids] at hT ⊢
  have HTL := Lib.hid hT
  have HIH := Lib.hid ih
  have HF := Lib.hid hF
  have HVL := Lib.hid hV
  obtain ⟨fa, fc, rfl⟩ := hF.shape
  clear ih hT hF hV
  have HZ := Lib.hid ((Upd.refl (fun _ => False) w).alloc (.cells #[.string nm, .string so, .slice a L.length cap] 24))
  have HB := Lib.hid (alloc0 w (.cells #[.string nm, .string so, .slice a L.length cap] 24))
  by_cases hs0 : so.size = 0
  · have hse := empty_is _ hs0
    subst hse
    rw [show vl (sbts (.mk nm ⟨#[]⟩ L)) = vls L from vl_node nm L]
    have hroom : l.length + sizes L + 1 ≤ 100000 := by rw [size_eq] at hsz; exact hsz
    have HR0 := Lib.hid hroom
    have hlL : L.length ≤ 100000 := by have h1 := length_le_sizes L; omega
    clear hsz hroom
    have c0 := cellRow HB.out 0 (.string nm) rfl
    have c1 := cellRow HB.out 1 (.string ⟨#[]⟩) rfl
    have c2 := cellRow HB.out 2 (.slice a L.length cap) rfl
    have hVK : ∀ x ∈ L, VL x := fun x hx => VL.kid (t := .mk nm ⟨#[]⟩ L) HVL.out hx
    have HVK := Lib.hid hVK
    clear hVK HVL
    go_enter Tryz.func84, Tryz.ntmps84
    go_wp2_with fail
    clear c0 c1 c2
    go_loopg [0, 6] L.length (fun gk lv iv wr => ∃ (k : Nat) (cur : List Vd), iv = .int .i64 (k : Int) ∧ gk = L.length - k ∧ k ≤ L.length ∧ Hid (vFold l (vls (L.take k)) = (cur, true)) ∧ Hid (FiR (fun j => S j ∨ w.heap.size ≤ j) wr lv cur) ∧ Hid (Ext w wr) ∧ Hid (wr.heap[w.heap.size]? = some (.cells #[.string nm, .string ⟨#[]⟩, .slice a L.length cap] 24 (0, 0))))
    case atStart => exact ⟨0, l, rfl, rfl, Nat.zero_le _, Lib.hid rfl, Lib.hid (SlR.weaken (FiR.ext HF.out HZ.out) (fun j h => .inl h)), HZ, HB⟩
    case round =>
      obtain ⟨k, cur, rfl, rfl, hk, HC, HFk, HE, HBr⟩ := hrel
      have c2 := cellRow HBr.out 2 (.slice a L.length cap) rfl
      by_cases hlt : k < L.length
      · obtain ⟨g, off, rfl, _, hat⟩ := (HTL.out.ext HE.out).at_ (by omega)
        obtain ⟨ka, kc, q0, q1, q2, hkid⟩ := hat k hlt
        have z0 : (0 : Int) ≤ (k : Int) := by omega
        have z1 : (k : Int) < (L.length : Int) := by omega
        have z2 : decide ((k : Int) < (L.length : Int)) = true := decide_eq_true z1
        have z2' : decide (k < L.length) = true := decide_eq_true hlt
        have hmem := tg_mem L k hlt
        have hrm := kid_room L k hlt
        have hln : cur.length ≤ l.length + (vls (L.take k)).length := by have := vFold_len (vls (L.take k)) l; rw [HC.out] at this; exact this
        obtain ⟨hv1, hv2⟩ := vls_fold L l cur k hlt HC.out
        have HIX := Lib.hid (HIH.out (tg L k) hmem cur _ _ _ T wr ⟨ka, kc, rfl, hkid⟩ HFk.out (HVK.out _ hmem) (by have := HR0.out; omega))
        dsimp only [tV] at HIX
        generalize vl (sbts (tg L k)) = ff at hv1 hv2 HIX
        obtain ⟨⟨m, b⟩, hm⟩ : ∃ p, vFold cur ff = p := ⟨_, rfl⟩
        rw [hm] at hv1 hv2 HIX
        have HV1 := Lib.hid hv1
        have HV2 := Lib.hid hv2
        obtain ⟨x, hx⟩ : ∃ x, tg L k = x := ⟨_, rfl⟩
        rw [hx] at q0 q1 q2 HIX
        rw [← Nat.add_assoc] at q1 q2
        clear hmem hrm hln hv1 hv2 hm hx hat hkid
        go_wp2_with fail
        refine HIX.out.mono ?_
        rintro e w8 ⟨r, rfl, hr, hw8⟩
        have HE8 := Lib.hid (HE.out.ext hw8)
        have HB8 := Lib.hid (hw8.heap HBr.out (fun h => h))
        have HFr : Hid (b = true → FiR (fun j => S j ∨ w.heap.size ≤ j) w8 r m) := Lib.hid (fun hb => SlR.weaken (hr hb) (fun j h => by
          rcases h with h | h
          · exact h
          · exact .inr (Nat.le_trans HE.out.size h)))
        clear hr hw8 c2 q0 q1 q2 HIX
        cases b
        · have HVF := Lib.hid (HV2.out rfl)
          go_wp2_with fail
          go_ret2
          rw [HVF.out]
          exact ⟨_, rfl, fun h => (by cases h), HE8.out⟩
        · have HN := Lib.hid (HV1.out m rfl)
          go_wp2_with fail
          go_roundg (L.length - (k + 1))
          case measure => omega
          case rel => exact ⟨k + 1, m, by go_num, rfl, by omega, HN, Lib.hid (HFr.out trivial), HE8, HB8⟩
      · obtain rfl : k = L.length := by omega
        have HV : Hid (vFold l (vls L) = (cur, true)) := Lib.hid (by rw [← HC.out, List.take_length])
        have z2 : decide ((L.length : Int) < (L.length : Int)) = false := decide_eq_false (by omega)
        go_wp2_with fail
        go_ret2
        rw [HV.out]
        exact ⟨_, rfl, fun _ => HFk.out, HE.out⟩
  · have hLn : L = [] := HVL.out _ (mem_sbts_self _) (fun e => hs0 (by show so.size = 0; rw [show so = nul from e]; rfl))
    subst hLn
    obtain ⟨e1, e2, e3, e4⟩ := nonempty_t so (Nat.pos_of_ne_zero hs0)
    rw [vl_leaf nm so (fun e => hs0 (by rw [e]; rfl))]
    have hadd : vFold l [(nm, so)] = if (vadd l (nm, so)).2 = true then ((vadd l (nm, so)).1, true) else (l, false) := by rw [vFold]; rfl
    have HADD := Lib.hid (fun W hW => add_x l (nm, so) _ S W (HF.out.ext hW) (by omega))
    have c0 := cellRow HB.out 0 (.string nm) rfl
    have c1 := cellRow HB.out 1 (.string so) rfl
    have c2 := cellRow HB.out 2 (.slice a ([] : List Tm).length cap) rfl
    dsimp only at HADD
    obtain ⟨⟨m, b⟩, hm⟩ : ∃ p, vadd l (nm, so) = p := ⟨_, rfl⟩
    rw [hm] at HADD hadd
    dsimp only at HADD hadd
    have HAD := Lib.hid hadd
    clear hadd hm
    go_enter Tryz.func84, Tryz.ntmps84
    go_wp2_with fail
    refine (HADD.out _ HZ.out).mono ?_
    rintro e w4 ⟨r, rfl, hr, hw4⟩
    have HRR := Lib.hid (SlR.weaken hr (fun j h => by
      rcases h with h | h
      · exact Or.inl h
      · exact Or.inr (Nat.le_trans HZ.out.size h)) : FiR (fun j => S j ∨ w.heap.size ≤ j) w4 r m)
    have H4 := Lib.hid (HZ.out.ext hw4)
    clear hr hw4 c0 c1 c2
    go_wp2_with fail
    go_ret2
    rw [HAD.out]
    cases b
    · exact ⟨r, rfl, fun h => by simp at h, H4.out⟩
    · exact ⟨r, rfl, fun _ => HRR.out, H4.out⟩

end Go.Proofs.YtlkcjmaiahnodaaGreatDoor

/- Names of the reference of the path order. -/
namespace Go.Proofs.YtlkcjmaiahnodaaGreatDoor
open Go.RowKit Go.Hw Go
set_option linter.unusedVariables false
set_option linter.unusedSimpArgs false

open Tm
/-- a list of strings that is read -/
abbrev StR (S : Nat → Prop) (w : World) (v : Value) (l : List By) : Prop := SlR S w 1 v l.length (l.map Value.string)
abbrev bg (l : List By) (i : Nat) : By := l.getD i nul
theorem bg_at (l : List By) (i : Nat) (h : i < l.length) : bg l i = l[i] := by unfold bg; rw [List.getD_eq_getElem?_getD, List.getElem?_eq_getElem h]; rfl
theorem StR.ext {S : Nat → Prop} {w w' : World} {v : Value} {l : List By} (h : StR S w v l) (hu : Ext w w') : StR S w' v l := SlR.kept h hu (fun _ _ h => h)
theorem StR.at_ {S : Nat → Prop} {w : World} {a : Option Addr} {n cap : Nat} {l : List By} (h : StR S w (.slice a n cap) l) (hl : 0 < l.length) :
    ∃ g off, a = some ⟨g, off, none⟩ ∧ S g ∧ ∀ i, i < l.length → w.cell? ⟨g, off + i, none⟩ = some (.string (bg l i)) := by
  obtain ⟨g, off, c, e, _, hS, hj⟩ := SlR.pos h hl
  injection e with e1 e2 e3
  refine ⟨g, off, e1, hS, fun i hi => ?_⟩
  rw [hj i (by omega), bg_at l i hi, List.getElem?_map, List.getElem?_eq_getElem hi]
  rfl
theorem StR.to {S : Nat → Prop} {w : World} {a : Option Addr} {n cap : Nat} {l : List By} (h : StR S w (.slice a n cap) l) {k : Nat} (hk : k ≤ l.length) : StR S w (.slice a k cap) (l.take k) := by
  have h1 := SlR.to h rfl k hk
  unfold StR
  rw [Nat.mul_one, ← List.map_take] at h1
  rw [List.length_take, Nat.min_eq_left hk]
  exact h1
theorem str_ne {a b : By} (h : a ≠ b) : (a.toList == b.toList) = false := beq_eq_false_iff_ne.2 (fun e => h (ba_list (by rw [Lib.toList_data, Lib.toList_data] at e; exact e)))
theorem str_dec (a b : By) : (a.toList == b.toList) = decide (a = b) := by
  by_cases h : a = b
  · rw [decide_eq_true h, h]; simp
  · rw [decide_eq_false h, str_ne h]
def ixI (l : List By) (s : By) : Int := if s ∈ l then (ixF l s : Int) else -1
theorem ixI_nn (l : List By) (s : By) : (decide ((0 : Int) ≤ ixI l s)) = decide (s ∈ l) := by
  unfold ixI
  by_cases h : s ∈ l
  · rw [if_pos h, decide_eq_true h, decide_eq_true (by omega)]
  · rw [if_neg h, decide_eq_false h]; rfl
theorem ixI_neg (l : List By) (s : By) : (decide (ixI l s < (0 : Int))) = !decide (s ∈ l) := by
  unfold ixI
  by_cases h : s ∈ l
  · rw [if_pos h, decide_eq_true h, decide_eq_false (by omega)]; rfl
  · rw [if_neg h, decide_eq_false h]; rfl
end Go.Proofs.YtlkcjmaiahnodaaGreatDoor

/- Formed of the reference. -/
namespace Go.Proofs.YtlkcjmaiahnodaaGreatDoor
open Go.RowKit Go.Hw Go
set_option linter.unusedVariables false
set_option linter.unusedSimpArgs false

open Tm
theorem flat_room {β : Type} (f : Tm → List β) (hf : ∀ t, (f t).length ≤ t.size) (L : List Tm) (k : Nat) (h : k < L.length) : ((L.take k).flatMap f).length + (tg L k).size ≤ sizes L := by
  have hle : ∀ M : List Tm, (M.flatMap f).length ≤ sizes M := by
    intro M
    induction M with
    | nil => simp [sizes]
    | cons a M ih =>
      have := hf a
      simp only [List.flatMap_cons, List.length_append, sizes]; omega
  have h1 := hle (L.take k)
  have h2 : sizes L = sizes (L.take (k + 1)) + sizes (L.drop (k + 1)) := by rw [← sizes_append, List.take_append_drop]
  rw [tk_snoc L k h, sizes_append] at h2
  have h3 : sizes [tg L k] = (tg L k).size := by simp [sizes]
  omega
theorem flat_snoc {β : Type} (f : Tm → List β) (L : List Tm) (k : Nat) (h : k < L.length) : (L.take (k + 1)).flatMap f = (L.take k).flatMap f ++ f (tg L k) := by
  rw [tk_snoc L k h, List.flatMap_append, List.flatMap_cons, List.flatMap_nil, List.append_nil]
theorem wf_formed {t : Tm} (h : wf nmB t = true) : formed nmB t = true := by
  unfold wf at h
  rw [Bool.and_eq_true] at h
  exact h.1
theorem formed_nd {t : Tm} (h : formed nmB t = true) : t.size ≤ 1000 ∧ ∀ x ∈ sbts t, nmB x.name = true ∧ x.kids.length ≤ 6 ∧ (x.sort = nul ∨ nmB x.sort = true ∧ x.kids = []) := by
  obtain ⟨h1, h2⟩ := (formed_iff nmB t).1 h
  refine ⟨h1, fun x hx => ?_⟩
  have hx1 : x ∈ (nodesD 1 t).map (·.1) := by rw [nodesD_fst t 1 0]; exact hx
  obtain ⟨p, hp, rfl⟩ := List.mem_map.1 hx1
  have h3 := h2 p hp
  unfold okN at h3
  simp only [Bool.and_eq_true, Bool.or_eq_true, decide_eq_true_eq] at h3
  refine ⟨h3.2.1, h3.2.2.1, ?_⟩
  rcases h3.2.2.2 with h | h
  · exact .inl h
  · exact .inr ⟨h.1, List.eq_nil_of_length_eq_zero h.2⟩
theorem formed_VL {t : Tm} (h : formed nmB t = true) : VL t := fun x hx hs => by
  rcases ((formed_nd h).2 x hx).2.2 with e | e
  · exact absurd e hs
  · exact e.2
set_option maxRecDepth 100000 in
set_option maxHeartbeats 2000000 in
theorem rformed_x (t : Tm) (v : Value) (S : Nat → Prop) (w : World) (hR : TmR S w t v) : Calls Tryz.prog 24 #[v] w fun e w' => e = .returned (.bool (wf nmB t)) ∧ Ext w w' := by
  have HR := Lib.hid hR
  obtain ⟨a, cap, rfl, hT⟩ := hR
  have HSM := Lib.hid (fun W (hW : Ext w W) => small_x t 1 1000 _ S W (HR.out.ext hW) (by omega) (by omega) (by omega))
  have HSF := Lib.hid (small_formed nmB t)
  dsimp only [tV] at HSM ⊢
  have HZ := Lib.hid ((Upd.refl (fun _ => False) w).alloc (.cells #[.string t.name, .string t.sort, .slice a t.kids.length cap] 24))
  have HB := Lib.hid (alloc0 w (.cells #[.string t.name, .string t.sort, .slice a t.kids.length cap] 24))
  have c0 := cellRow HB.out 0 (.string t.name) rfl
  have c1 := cellRow HB.out 1 (.string t.sort) rfl
  have c2 := cellRow HB.out 2 (.slice a t.kids.length cap) rfl
  by_cases hf : formed nmB t = true
  · have hsz := (formed_nd hf).1
    have HVA := Lib.hid (fun W (hW : Ext w W) => vars_x t [] (.slice none 0 0) _ S S W (HR.out.ext hW) (SlR.nil S W 2) (formed_VL hf) (by show 0 + t.size ≤ 100000; omega))
    have HV : Hid (wf nmB t = (vFold [] (vl (sbts t))).2) := Lib.hid (by unfold wf; rw [hf, Bool.true_and, varsT_ok])
    have z1 : ¬ (small nmB 1 1000 t < 0) := by
      have := HSF.out
      rw [hf] at this
      have := of_decide_eq_true this.symm
      omega
    dsimp only [tV] at HVA
    clear hT hf hsz
    generalize small nmB 1 1000 t = R at *
    generalize (vFold [] (vl (sbts t))).2 = B at *
    go_enter Tryz.func24, Tryz.ntmps24
    go_wp2_with fail
    refine (HSM.out _ HZ.out).mono ?_
    rintro e w4 ⟨rfl, hw4⟩
    have H4 := Lib.hid (HZ.out.ext hw4)
    have HB4 := Lib.hid (hw4.heap HB.out (fun h => h))
    clear hw4 c0 c1 c2
    have c0 := cellRow HB4.out 0 (.string t.name) rfl
    have c1 := cellRow HB4.out 1 (.string t.sort) rfl
    have c2 := cellRow HB4.out 2 (.slice a t.kids.length cap) rfl
    go_wp2_with fail
    refine (HVA.out _ H4.out).mono ?_
    rintro e w5 ⟨r, rfl, _, hw5⟩
    have H5 := Lib.hid (H4.out.ext hw5)
    clear hw5 c0 c1 c2
    go_wp2_with fail
    go_ret
    rw [HV.out]
    exact ⟨rfl, H5.out⟩
  · have HV : Hid (wf nmB t = false) := Lib.hid (by unfold wf; rw [Bool.eq_false_iff.2 hf]; rfl)
    have z1 : small nmB 1 1000 t < 0 := by
      have h1 := HSF.out
      rw [Bool.eq_false_iff.2 hf] at h1
      have := of_decide_eq_false h1.symm
      omega
    clear hT hf
    generalize small nmB 1 1000 t = R at *
    go_enter Tryz.func24, Tryz.ntmps24
    go_wp2_with fail
    refine (HSM.out _ HZ.out).mono ?_
    rintro e w4 ⟨rfl, hw4⟩
    have H4 := Lib.hid (HZ.out.ext hw4)
    clear hw4 c0 c1 c2
    go_wp2_with fail
    go_ret
    rw [HV.out]
    exact ⟨rfl, H4.out⟩
theorem infoS : (Tryz.prog.info? 9).map (fun i => (i.zero, i.size, i.bytes)) = some (some (.string ⟨#[]⟩), 1, 16) := by kernel_rfl
theorem strs_one (l : List By) : ∀ u ∈ l.map Value.string, u.oneCell' = true := by
  intro u hu
  obtain ⟨x, _, rfl⟩ := List.mem_map.1 hu
  rfl
theorem str_own {S : Nat → Prop} {base e : Nat} {W : World} {v : Value} {l : List By} (h : W.ownsRow base e 1 v l.length (l.map Value.string)) : StR (fun j => S j ∨ base ≤ j) W v l := SlR.weaken (SlR.of_own h) (fun j hj => .inr (h.lt j hj).1)

end Go.Proofs.YtlkcjmaiahnodaaGreatDoor

/- Ops of the reference. -/
namespace Go.Proofs.YtlkcjmaiahnodaaGreatDoor
open Go.RowKit Go.Hw Go
set_option linter.unusedVariables false
set_option linter.unusedSimpArgs false

open Tm
/-- a row of strings is no box of a term -/
theorem own_not_box {W : World} {base : Nat} {v : Value} {n : Nat} {xs : List Value} {e t size : Nat} {b : Nat} {cs : Array Value} {mk : Nat × Nat} (hne : e ≠ t) (h : W.ownsRow base e size v n xs) (hb : W.heap[b]? = some (.cells cs t mk)) (ho : v.ownBlock = some b) : False := by
  rcases h.2 with ⟨rfl, _⟩ | ⟨g, cap, cur, rfl, _, hg, _⟩
  · simp [Value.ownBlock] at ho
  · simp only [Value.ownBlock, Option.some.injEq] at ho
    subst ho
    rw [hg] at hb
    injection hb with hb
    injection hb with h1 h2 h3
    exact hne h2
end Go.Proofs.YtlkcjmaiahnodaaGreatDoor

/- Knows, occurs of the reference. -/
namespace Go.Proofs.YtlkcjmaiahnodaaGreatDoor
open Go.RowKit Go.Hw Go
set_option linter.unusedVariables false
set_option linter.unusedSimpArgs false

open Tm
theorem knowsP_fold (ops : List By) (t : Tm) : knowsP ops t = (aFold [] (opN t)).all fun s => decide (s ∈ ops) := by
  rw [Bool.eq_iff_iff, knowsP_iff, List.all_eq_true]
  constructor
  · intro h s hs
    rw [mem_aFold] at hs
    rcases hs with hs | hs
    · simp at hs
    · exact decide_eq_true (h s hs)
  · intro h s hs
    exact of_decide_eq_true (h s (mem_aFold.2 (.inr hs)))
end Go.Proofs.YtlkcjmaiahnodaaGreatDoor

/- cell of the reference. -/
namespace Go.Proofs.YtlkcjmaiahnodaaGreatDoor
open Go.RowKit Go.Hw Go
set_option linter.unusedVariables false
set_option linter.unusedSimpArgs false

open Tm
theorem tl_cells {S : Nat → Prop} {w : World} {N : List Nt} {a : Option Addr} {n cap : Nat} (h : TlR S w (N.map (·.1)) (.slice a n cap)) (hl : 0 < N.length) :
    ∃ g off, a = some ⟨g, off, none⟩ ∧ ∀ W, Ext w W → ∀ i, i < N.length → ∃ a' cap', W.cell? ⟨g, off + i * 3, none⟩ = some (.string (ng N i).1.name) ∧ W.cell? ⟨g, off + i * 3 + 1, none⟩ = some (.string (ng N i).1.sort) ∧
      W.cell? ⟨g, off + i * 3 + 2, none⟩ = some (.slice a' (ng N i).1.kids.length cap') ∧ TlR S W (ng N i).1.kids (.slice a' (ng N i).1.kids.length cap') := by
  obtain ⟨g, off, e, _, hat⟩ := h.at_ (by rw [List.length_map]; exact hl)
  refine ⟨g, off, e, fun W hW i hi => ?_⟩
  obtain ⟨a', cap', h0, h1, h2, h3⟩ := hat i (by rw [List.length_map]; exact hi)
  rw [ng_map1 N i hi] at h0 h1 h2 h3
  exact ⟨a', cap', hW.cell h0 (fun h => h), by rw [Nat.add_assoc]; exact hW.cell h1 (fun h => h), by rw [Nat.add_assoc]; exact hW.cell h2 (fun h => h), h3.ext hW⟩
theorem kl_cells {S : Nat → Prop} {w : World} {N : List Nt} {a : Option Addr} {n cap : Nat} (h : LlR natV S w (.slice a n cap) (N.map (·.2))) (i : Nat) (hi : i < N.length) :
    ∃ g off a' cap', a = some ⟨g, off, none⟩ ∧ ∃ g' off', ∀ W, Ext w W → W.cell? ⟨g, off + i, none⟩ = some (.slice a' (ng N i).2.length cap') ∧ ∀ k, k < (ng N i).2.length → a' = some ⟨g', off', none⟩ ∧ W.cell? ⟨g', off' + k, none⟩ = some (natV ((ng N i).2.getD k 0)) := by
  obtain ⟨g, off, e, _, hat⟩ := h.at_ (by rw [List.length_map]; omega)
  obtain ⟨a', cap', h0, h1⟩ := hat i (by rw [List.length_map]; exact hi)
  rw [ng_map2 N i hi] at h0 h1
  by_cases h0l : 0 < (ng N i).2.length
  · obtain ⟨g', off', e', _, hj⟩ := h1.one_at (d := 0) h0l
    exact ⟨g, off, a', cap', e, g', off', fun W hW => ⟨hW.cell h0 (fun h => h), fun k hk => ⟨e', hW.cell (hj k hk) (fun h => h)⟩⟩⟩
  · exact ⟨g, off, a', cap', e, 0, 0, fun W hW => ⟨hW.cell h0 (fun h => h), fun k hk => absurd (Nat.lt_of_le_of_lt (Nat.zero_le k) hk) h0l⟩⟩
theorem tb_cells {S : Nat → Prop} {w : World} {tab : List (List Bool)} {a : Option Addr} {n cap m : Nat} (h : LlR Value.bool S w (.slice a n cap) tab) (hl : 0 < tab.length) (hrow : ∀ p, p < tab.length → (tab.getD p []).length = m) (hm : 0 < m) :
    ∃ g off, a = some ⟨g, off, none⟩ ∧ ∃ (RG RO RC : Nat → Nat), ∀ W, Ext w W → ∀ p, p < tab.length → ∀ q, q < m → W.cell? ⟨g, off + p, none⟩ = some (.slice (some ⟨RG p, RO p, none⟩) m (RC p)) ∧ W.cell? ⟨RG p, RO p + q, none⟩ = some (.bool (bt tab p q)) := by
  obtain ⟨g, off, e, _, hat⟩ := h.at_ hl
  have hA : ∀ p, ∃ x : Nat × Nat × Nat, p < tab.length → ∀ W, Ext w W → ∀ q, q < m → W.cell? ⟨g, off + p, none⟩ = some (.slice (some ⟨x.1, x.2.1, none⟩) m x.2.2) ∧ W.cell? ⟨x.1, x.2.1 + q, none⟩ = some (.bool (bt tab p q)) := fun p => by
    by_cases hp : p < tab.length
    · obtain ⟨a', cap', h0, h1⟩ := hat p hp
      obtain ⟨g', off', e', _, hj⟩ := h1.one_at (d := false) (by rw [hrow p hp]; exact hm)
      rw [hrow p hp] at h0 hj
      subst e'
      exact ⟨(g', off', cap'), fun _ W hW q hq => ⟨hW.cell h0 (fun h => h), hW.cell (hj q hq) (fun h => h)⟩⟩
    · exact ⟨(0, 0, 0), fun h => absurd h hp⟩
  obtain ⟨f, hf⟩ := Classical.axiomOfChoice hA
  exact ⟨g, off, e, fun p => (f p).1, fun p => (f p).2.1, fun p => (f p).2.2, fun W hW p hp q hq => hf p hp W hW q hq⟩
end Go.Proofs.YtlkcjmaiahnodaaGreatDoor

/- Subterms gathered. -/
namespace Go.Proofs.YtlkcjmaiahnodaaGreatDoor
open Go.RowKit Go.Hw Go
set_option linter.unusedVariables false
set_option linter.unusedSimpArgs false

open Tm
/-- subterms that are gathered: two rows of one's own; B: their blocks, R: blocks of others -/
structure SubR (R B T : Nat → Prop) (base : Nat) (w : World) (lv kv : Value) (N : List Nt) : Prop where
  rows : ∃ (us ks : List Value) (G : Nat → Prop), us.length = N.length ∧ ks.length = N.length ∧ w.ownsRow base 24 3 lv N.length (tCells (N.map (·.1)) us) ∧ w.ownsRow base 63 1 kv N.length ks ∧
    (∀ i, i < N.length → TlR T w (ng N i).1.kids (ug us i)) ∧ (∀ i, i < N.length → SlR G w 1 (ug ks i) (ng N i).2.length ((ng N i).2.map natV)) ∧ ∀ k, G k → base ≤ k ∧ k < w.heap.size ∧ ¬ B k ∧ ¬ R k
  num : Num N
  blkL : ∀ k, lv.ownBlock = some k → B k
  blkK : ∀ k, kv.ownBlock = some k → B k
  lt : ∀ k, B k → base ≤ k ∧ k < w.heap.size ∧ ¬ R k
  tb : ∀ k, T k → k < base
section
variable {R R' B T F : Nat → Prop} {base : Nat} {w w' : World} {lv kv : Value} {N : List Nt}
theorem SubR.upd (h : SubR R B T base w lv kv N) (hu : Upd F w w') (hF : ∀ k, F k → R k ∧ base ≤ k) : SubR R B T base w' lv kv N := by
  obtain ⟨us, ks, G, h1, h2, h3, h4, h5, h6, h7⟩ := h.rows
  refine ⟨⟨us, ks, G, h1, h2, own_kept h3 hu (fun k hk hf => (h.lt k (h.blkL k hk)).2.2 (hF k hf).1), own_kept h4 hu (fun k hk hf => (h.lt k (h.blkK k hk)).2.2 (hF k hf).1), fun i hi => (h5 i hi).kept hu (fun k hk hf => by have := h.tb k hk; have := (hF k hf).2; omega), fun i hi => (h6 i hi).kept hu (fun k hk hf => (h7 k hk).2.2.2 (hF k hf).1), fun k hk => ⟨(h7 k hk).1, Nat.lt_of_lt_of_le (h7 k hk).2.1 hu.size, (h7 k hk).2.2⟩⟩, h.num, h.blkL, h.blkK, fun k hk => ⟨(h.lt k hk).1, Nat.lt_of_lt_of_le (h.lt k hk).2.1 hu.size, (h.lt k hk).2.2⟩, h.tb⟩
theorem SubR.ext (h : SubR R B T base w lv kv N) (hu : Ext w w') : SubR R B T base w' lv kv N := h.upd hu (fun _ hf => hf.elim)
/-- what is new is of others -/
theorem SubR.reserve (h : SubR R B T base w lv kv N) : SubR (fun k => R k ∨ w.heap.size ≤ k) B T base w lv kv N := by
  obtain ⟨us, ks, G, h1, h2, h3, h4, h5, h6, h7⟩ := h.rows
  refine ⟨⟨us, ks, G, h1, h2, h3, h4, h5, h6, fun k hk => ⟨(h7 k hk).1, (h7 k hk).2.1, (h7 k hk).2.2.1, fun hr => ?_⟩⟩, h.num, h.blkL, h.blkK, fun k hk => ⟨(h.lt k hk).1, (h.lt k hk).2.1, fun hr => ?_⟩, h.tb⟩
  · rcases hr with hr | hr
    · exact (h7 k hk).2.2.2 hr
    · have := (h7 k hk).2.1; omega
  · rcases hr with hr | hr
    · exact (h.lt k hk).2.2 hr
    · have := (h.lt k hk).2.1; omega
theorem SubR.weaken (h : SubR R B T base w lv kv N) (hr : ∀ k, R' k → R k) : SubR R' B T base w lv kv N := by
  obtain ⟨us, ks, G, h1, h2, h3, h4, h5, h6, h7⟩ := h.rows
  exact ⟨⟨us, ks, G, h1, h2, h3, h4, h5, h6, fun k hk => ⟨(h7 k hk).1, (h7 k hk).2.1, (h7 k hk).2.2.1, fun hx => (h7 k hk).2.2.2 (hr k hx)⟩⟩, h.num, h.blkL, h.blkK, fun k hk => ⟨(h.lt k hk).1, (h.lt k hk).2.1, fun hx => (h.lt k hk).2.2 (hr k hx)⟩, h.tb⟩
theorem SubR.shape (h : SubR R B T base w lv kv N) : ∃ a c a' c', lv = .slice a N.length c ∧ kv = .slice a' N.length c' := by
  obtain ⟨us, ks, G, h1, h2, h3, h4, _⟩ := h.rows
  obtain ⟨a, c, e⟩ := own_shape h3
  obtain ⟨a', c', e'⟩ := own_shape h4
  exact ⟨a, c, a', c', e, e'⟩
/-- as they are read -/
theorem SubR.read (h : SubR R B T base w lv kv N) : TlR (fun k => T k ∨ base ≤ k ∧ ¬ R k) w (N.map (·.1)) lv ∧ LlR natV (fun k => T k ∨ base ≤ k ∧ ¬ R k) w kv (N.map (·.2)) := by
  obtain ⟨us, ks, G, h1, h2, h3, h4, h5, h6, h7⟩ := h.rows
  refine ⟨.mk _ us lv (by simp [h1]) (by rw [List.length_map]; exact (SlR.of_own h3).weaken (fun k hk => .inr ⟨(h.lt k (h.blkL k hk)).1, (h.lt k (h.blkL k hk)).2.2⟩)) (fun i hi => ?_), ⟨ks, by simp [h2], by rw [List.length_map]; exact (SlR.of_own h4).weaken (fun k hk => .inr ⟨(h.lt k (h.blkK k hk)).1, (h.lt k (h.blkK k hk)).2.2⟩), fun i hi => ?_⟩⟩
  · rw [List.length_map] at hi
    rw [ng_map1 N i hi]
    exact (h5 i hi).weaken (fun k hk => .inl hk)
  · rw [List.length_map] at hi
    rw [ng_map2 N i hi]
    exact (h6 i hi).weaken (fun k hk => .inr ⟨(h7 k hk).1, (h7 k hk).2.2.2⟩)
theorem SubR.nil (R T : Nat → Prop) (base : Nat) (w : World) (hT : ∀ k, T k → k < base) : SubR R (fun _ => False) T base w (.slice none 0 0) (.slice none 0 0) [] :=
  ⟨⟨[], [], fun _ => False, rfl, rfl, ⟨rfl, .inl ⟨rfl, rfl⟩⟩, ⟨rfl, .inl ⟨rfl, rfl⟩⟩, fun i hi => by simp at hi, fun i hi => by simp at hi, fun k hk => hk.elim⟩, Num.nil, fun k hk => by simp [Value.ownBlock] at hk, fun k hk => by simp [Value.ownBlock] at hk, fun k hk => hk.elim, hT⟩
theorem ug_left {us : List Value} (x : Value) {i : Nat} (h : i < us.length) : ug (us ++ [x]) i = ug us i := by
  unfold ug
  rw [List.getD_eq_getElem?_getD, List.getD_eq_getElem?_getD, List.getElem?_append_left h]
theorem ug_last (us : List Value) (x : Value) : ug (us ++ [x]) us.length = x := by
  unfold ug
  rw [List.getD_eq_getElem?_getD, List.getElem?_concat_length]
  rfl
/-- a term and its numbers behind the others: both rows have grown -/
theorem SubR.push {t : Tm} {u v lv' kv' : Value} {us ks : List Value} {G V R0 : Nat → Prop} {kn : List Nat} (h : SubR R B T base w lv kv N)
    (h1 : us.length = N.length) (h2 : ks.length = N.length) (h5 : ∀ i, i < N.length → TlR T w (ng N i).1.kids (ug us i)) (h6 : ∀ i, i < N.length → SlR G w 1 (ug ks i) (ng N i).2.length ((ng N i).2.map natV)) (h7 : ∀ k, G k → base ≤ k ∧ k < w.heap.size ∧ ¬ B k ∧ ¬ R k)
    (hw : Upd (fun k => B k ∨ R k ∧ base ≤ k ∧ ¬ V k) w w')
    (hL : w'.ownsRow base 24 3 lv' (N.length + 1) (tCells (N.map (·.1)) us ++ [.string t.name, .string t.sort, u])) (hK : w'.ownsRow base 63 1 kv' (N.length + 1) (ks ++ [v]))
    (hbl : ∀ k, lv'.ownBlock = some k → B k ∨ w.heap.size ≤ k ∧ k < w'.heap.size) (hbk : ∀ k, kv'.ownBlock = some k → B k ∨ w.heap.size ≤ k ∧ k < w'.heap.size)
    (hb : base ≤ w.heap.size) (hu : TlR T w t.kids u) (hv : SlR V w 1 v kn.length (kn.map natV)) (hV : ∀ k, V k → R k ∧ base ≤ k ∧ k < w.heap.size) (hR0 : ∀ k, R0 k → R k ∧ k < w.heap.size ∧ ¬ V k)
    (hkl : ∀ k ∈ kn, k < N.length) (hkm : kn.map (fun k => (ng N k).1) = t.kids) :
    SubR R0 (fun k => B k ∨ w.heap.size ≤ k ∧ (lv'.ownBlock = some k ∨ kv'.ownBlock = some k)) T base w' lv' kv' (N ++ [(t, kn)]) := by
  have hlen : (N ++ [(t, kn)]).length = N.length + 1 := by simp
  have hne : ∀ i, i < (N ++ [(t, kn)]).length → i < N.length ∨ i = N.length := fun i hi => by rw [hlen] at hi; omega
  refine ⟨⟨us ++ [u], ks ++ [v], fun k => G k ∨ V k, by simp [h1], by simp [h2], ?_, by rw [hlen]; exact hK, fun i hi => ?_, fun i hi => ?_, fun k hk => ?_⟩, h.num.snoc t kn hkl hkm, fun k hk => ?_, fun k hk => ?_, fun k hk => ?_, h.tb⟩
  · rw [hlen, List.map_append]
    have := tCells_snoc (N.map (·.1)) us t u (by rw [List.length_map]; exact h1)
    rw [show [(t, kn)].map (·.1) = [t] from rfl, this]
    exact hL
  · have hT : ∀ k, T k → ¬ (B k ∨ R k ∧ base ≤ k ∧ ¬ V k) := fun k hk hx => by
      have h8 := h.tb k hk
      rcases hx with hx | hx
      · have := (h.lt k hx).1; omega
      · omega
    rcases hne i hi with hi | rfl
    · rw [ng_left _ hi, ug_left _ (by omega)]
      exact (h5 i hi).kept hw hT
    · rw [ng_last, ← h1, ug_last]
      exact hu.kept hw hT
  · rcases hne i hi with hi | rfl
    · rw [ng_left _ hi, ug_left _ (by omega)]
      exact ((h6 i hi).kept hw (fun k hk hx => by
        rcases hx with hx | hx
        · exact (h7 k hk).2.2.1 hx
        · exact (h7 k hk).2.2.2 hx.1)).weaken (fun k hk => .inl hk)
    · rw [ng_last, ← h2, ug_last]
      exact (hv.kept hw (fun k hk hx => by
        rcases hx with hx | hx
        · exact (h.lt k hx).2.2 (hV k hk).1
        · exact hx.2.2 hk)).weaken (fun k hk => .inr hk)
  · have hlt : base ≤ k ∧ k < w.heap.size ∧ ¬ B k ∧ (R k → V k) := by
      rcases hk with hk | hk
      · exact ⟨(h7 k hk).1, (h7 k hk).2.1, (h7 k hk).2.2.1, fun hr => absurd hr (h7 k hk).2.2.2⟩
      · exact ⟨(hV k hk).2.1, (hV k hk).2.2, fun hx => (h.lt k hx).2.2 (hV k hk).1, fun _ => hk⟩
    refine ⟨hlt.1, Nat.lt_of_lt_of_le hlt.2.1 hw.size, fun hx => ?_, fun hx => (hR0 k hx).2.2 (hlt.2.2.2 (hR0 k hx).1)⟩
    rcases hx with hx | hx
    · exact hlt.2.2.1 hx
    · omega
  · rcases hbl k hk with h8 | h8
    · exact .inl h8
    · exact .inr ⟨h8.1, .inl hk⟩
  · rcases hbk k hk with h8 | h8
    · exact .inl h8
    · exact .inr ⟨h8.1, .inr hk⟩
  · rcases hk with hk | ⟨hk, hk2⟩
    · exact ⟨(h.lt k hk).1, Nat.lt_of_lt_of_le (h.lt k hk).2.1 hw.size, fun hx => (h.lt k hk).2.2 (hR0 k hx).1⟩
    · refine ⟨by omega, ?_, fun hx => by have := (hR0 k hx).2.1; omega⟩
      rcases hk2 with h8 | h8
      · rcases hbl k h8 with h9 | h9
        · have := (h.lt k h9).2.1; omega
        · exact h9.2
      · rcases hbk k h8 with h9 | h9
        · have := (h.lt k h9).2.1; omega
        · exact h9.2
end

end Go.Proofs.YtlkcjmaiahnodaaGreatDoor
