/- The texts Y28 Y50 Y51, one behind the other. -/
import Derived.Test.YtjjaknmnhhfjeaaGreatDoorKAZ
import Derived.Test.YtjjaknmnhhfjeaaGreatDoorKAX
import Derived.Test.YtjjaknmnhhfjeaaGreatDoorKAT
/- joined. -/
namespace Go.Proofs.YtjjaknmnhhfjeaaGreatDoor
open Go.RowKit Go.Hw Go Go.Sort Go.Proofs Go.ChangeMaps
set_option linter.unusedVariables false
set_option linter.unusedSimpArgs false

open Tm
theorem jt_snoc (x : By) (r : List By) : Lib.joinTail sepL ((r ++ [x]).map (·.data.toList)) = Lib.joinTail sepL (r.map (·.data.toList)) ++ (sepL ++ x.data.toList) := by
  unfold Lib.joinTail
  simp
theorem join_snoc (l : List By) (k : Nat) (h : k < l.length) : joinB (l.take (k + 1)) = if k = 0 then (bg l k).data.toList else joinB (l.take k) ++ (sepL ++ (bg l k).data.toList) := by
  have e : l.take (k + 1) = l.take k ++ [bg l k] := by rw [List.take_add_one, List.getElem?_eq_getElem h, bg_at l k h]; rfl
  rw [e]
  cases hk : l.take k with
  | nil =>
    have : k = 0 := by
      have h1 := congrArg List.length hk
      rw [List.length_take, Nat.min_eq_left (by omega)] at h1
      simpa using h1
    rw [if_pos this]
    show Lib.join [(bg l k).data.toList] sepL = _
    exact Lib.join_one _ _
  | cons y r =>
    have : k ≠ 0 := by rintro rfl; simp at hk
    rw [if_neg this]
    show Lib.join ((y :: (r ++ [bg l k])).map (·.data.toList)) sepL = Lib.join ((y :: r).map (·.data.toList)) sepL ++ _
    rw [List.map_cons, List.map_cons, Lib.join_cons, Lib.join_cons, jt_snoc, List.append_assoc]
set_option maxRecDepth 100000 in
set_option maxHeartbeats 2000000 in
theorem joined_x (l : List By) (a : Option Addr) (c : Nat) (S : Nat → Prop) (w : World) (hA : StrR S w (.slice a l.length c) l) (hl : l.length ≤ 1000000) (hz : ∀ s ∈ l, s.size ≤ 1000000) :
    Calls Tryz.prog 76 #[.slice a l.length c] w fun e w' => e = .returned (.string (bs (joinB l))) ∧ Ext w w' := by
  have HA := Lib.hid hA
  have HSZ := Lib.hid hz
  clear hA hz
  go_enter Tryz.func76, Tryz.ntmps76
  go_wp2_with fail
  go_loopg [3, 4] l.length (fun gk sv iv wr => ∃ k : Nat, iv = .int .i64 (k : Int) ∧ sv = .string (bs (joinB (l.take k))) ∧ Hid ((joinB (l.take k)).length ≤ 1000002 * k) ∧ gk = l.length - k ∧ k ≤ l.length ∧ Hid (Ext w wr))
  case atStart => exact ⟨0, rfl, rfl, Lib.hid (by simp [joinB, Lib.join_nil]), rfl, Nat.zero_le _, Lib.hid (Upd.refl _ _)⟩
  case round =>
    obtain ⟨k, rfl, rfl, HJL, rfl, hk, HE⟩ := hrel
    by_cases hlt : k < l.length
    · obtain ⟨g, off, hga, _, hat⟩ := StR.at_ (StR.ext HA.out HE.out) (by omega)
      subst hga
      have q0 := hat k hlt
      have z0 : (0 : Int) ≤ (k : Int) := by omega
      have z1 : (k : Int) < (l.length : Int) := by omega
      have z2 : decide ((k : Int) < (l.length : Int)) = true := decide_eq_true z1
      have z2' : decide (k < l.length) = true := decide_eq_true hlt
      have hj := join_snoc l k hlt
      have hxs := HSZ.out (bg l k) (by rw [bg_at l k hlt]; exact List.getElem_mem hlt)
      have hjl := HJL.out
      obtain ⟨x, hx⟩ : ∃ x, bg l k = x := ⟨_, rfl⟩
      rw [hx] at q0 hj hxs
      have hxl : x.data.toList.length = x.size := rfl
      have HX := Lib.hid (bs_of x)
      have HJ := Lib.hid hj
      have hb : (bs (joinB (l.take k))).size ≤ 1000002 * k := by rw [bs_size]; exact hjl
      obtain ⟨B, hB⟩ : ∃ B, bs (joinB (l.take k)) = B := ⟨_, rfl⟩
      have HB := Lib.hid hB
      rw [hB] at hb
      have HL : Hid ((joinB (l.take (k + 1))).length ≤ 1000002 * (k + 1)) := Lib.hid (by
        rw [hj]
        split
        · omega
        · rw [List.length_append, List.length_append]; have : sepL.length = 2 := rfl; omega)
      rw [hB]
      clear hat hx hj hjl hB
      have n1 : ¬ (9223372036854775807 < B.size + 2) := by omega
      have n2 : ¬ (9223372036854775807 < B.size + 2 + x.size) := by omega
      have n3 : ¬ (9223372036854775807 < B.size + x.size) := by omega
      by_cases h0 : k = 0
      · have HJ2 : Hid (bs (joinB (l.take (k + 1))) = B ++ x) := Lib.hid (by rw [HJ.out, if_pos h0, bs_of, ← HB.out, h0]; simp only [List.take_zero, joinB, List.map_nil, Lib.join_nil]; refine ba_list ?_; simp [bs])
        have z3 : ¬ (0 : Int) < (k : Int) := by omega
        have z4 : decide ((0 : Int) < (k : Int)) = false := decide_eq_false z3
        clear HJ h0 hb hxl
        go_wp2_with fail
        go_roundg (l.length - (k + 1))
        case measure => omega
        case rel => exact ⟨k + 1, by go_num, by rw [HJ2.out], HL, rfl, by omega, HE⟩
      · have z3 : (0 : Int) < (k : Int) := by omega
        have z4 : decide ((0 : Int) < (k : Int)) = true := decide_eq_true z3
        have HJ2 : Hid (bs (joinB (l.take (k + 1))) = B ++ ⟨#[44, 32]⟩ ++ x) := Lib.hid (by rw [HJ.out, if_neg h0, ← HB.out, ← bs_app, ← bs_app, bs_of, ByteArray.append_assoc]; rfl)
        clear HJ h0 hb hxl
        go_wp2_with fail
        go_roundg (l.length - (k + 1))
        case measure => omega
        case rel => exact ⟨k + 1, by go_num, by rw [HJ2.out], HL, rfl, by omega, HE⟩
    · obtain rfl : k = l.length := by omega
      have z2 : decide ((l.length : Int) < (l.length : Int)) = false := decide_eq_false (by omega)
      go_wp2_with fail
      go_ret
      exact ⟨by simp, HE.out⟩

end Go.Proofs.YtjjaknmnhhfjeaaGreatDoor

/- Names in parentheses: the closure of ParseSignature. -/
namespace Go.Proofs.YtjjaknmnhhfjeaaGreatDoor
open Go.RowKit Go.Hw Go Go.Sort Go.Proofs Go.ChangeMaps
set_option linter.unusedVariables false
set_option linter.unusedSimpArgs false

open Tm
set_option maxRecDepth 100000 in
set_option maxHeartbeats 4000000 in
theorem list62_x {α : Type} (el : Nat → PR α) (K : List α → Nat → Bool → World → Prop) (K0 : List α → Nat → World → Prop) (rb : Nat) (la : Option Addr) (lc : Nat) (S : Nat → Prop) (l : List Tok) (tb rx : Nat) (hE : Ended l) (hf : Fwd l el) (hl : l.length ≤ 1000000)
    (hK1 : ∀ xs i b W, K xs i b W → Rd rb la lc S l W i b)
    (hK2 : ∀ xs i b W W' i' b', K xs i b W → i ≤ i' → (b = true → b' = true) → Upd (fun k => k = rb) W W' → Rd rb la lc S l W' i' b' → K xs i' b' W')
    (hK0 : ∀ xs i W W', K xs i false W → Upd (fun k => k = rb) W W' → Rd rb la lc S l W' i true → K0 xs i W')
    (h1 : ∀ xs i W, K xs i false W → i < l.length → Calls Tryz.prog 62 #[.pointer (some ⟨tb, 0, none⟩), .pointer (some ⟨rx, 0, none⟩)] W fun e W' => e = .returned (.tuple #[]) ∧ ElP K xs (el i) W')
    (h2 : ∀ xs i W, K0 xs i W → i < l.length → Calls Tryz.prog 62 #[.pointer (some ⟨tb, 0, none⟩), .pointer (some ⟨rx, 0, none⟩)] W fun e W' => e = .returned (.tuple #[]) ∧ ∃ ys, K ys i true W')
    (i : Nat) (b : Bool) (w : World) (h0 : K [] i b w) (hi : i < l.length) :
    Calls Tryz.prog 61 #[.pointer (some ⟨rb, 0, none⟩), .func (.func 62) #[] #[.pointer (some ⟨tb, 0, none⟩), .pointer (some ⟨rx, 0, none⟩)]] w fun e w' => e = .returned (.tuple #[]) ∧ LsP K (if b = true then .bad i else pP el l i) w' := by
  have hK1 := Lib.hid hK1
  have hK2 := Lib.hid hK2
  have hK0 := Lib.hid hK0
  have h1 := Lib.hid h1
  have h2 := Lib.hid h2
  have hf := Lib.hid hf
  have hE := Lib.hid hE
  have H0 := Lib.hid h0
  obtain ⟨R, hR⟩ : ∃ R, (if b = true then .bad i else pP el l i) = R := ⟨_, rfl⟩
  rw [hR]
  have HR := Lib.hid hR
  have HTK := Lib.hid (take_x rb la lc S l i b sLp w (hK1.out _ _ _ _ h0) hi hl)
  have hs1 : (⟨#[40]⟩ : By) = sLp := rfl
  have heg : ∀ args W, (callFunc 111 args).run Tryz.prog W = .ok (.enter 111 args) W := enters_of Tryz.func111 (by kernel_rfl) rfl
  obtain ⟨⟨i1, b1⟩, htk⟩ : ∃ p, takeF l i b sLp = p := ⟨_, rfl⟩
  rw [htk] at HTK
  have HII : Hid (i ≤ i1 ∧ (b = true → b1 = true)) := Lib.hid (by
    unfold takeF at htk
    split at htk
    · rename_i hc
      injection htk with e1 e2
      refine ⟨by omega, fun hb => ?_⟩
      rw [hb] at hc
      simp at hc
    · injection htk with e1 e2
      exact ⟨by omega, fun _ => e2.symm⟩)
  have HST : Hid (i1 < l.length ∧ R = (if b1 = true then .bad i1 else pL el l (l.length - i) i1 true []) ∧ l.length - i1 ≤ l.length - i) := Lib.hid (by
    rw [← hR]
    unfold takeF at htk
    unfold pP
    cases b
    · rw [Bool.not_false, Bool.true_and] at htk
      rw [if_neg (by decide)]
      by_cases hc : isB (tk l i) sLp = true
      · rw [if_pos hc] at htk ⊢
        injection htk with e1 e2
        subst e1; subst e2
        exact ⟨hE.out.isB hi hc, rfl, by omega⟩
      · rw [if_neg hc] at htk ⊢
        injection htk with e1 e2
        subst e1; subst e2
        exact ⟨hi, rfl, Nat.le_refl _⟩
    · rw [if_neg (by simp)] at htk
      injection htk with e1 e2
      subst e1; subst e2
      exact ⟨hi, rfl, Nat.le_refl _⟩)
  clear h0 hR htk HR
  go_enter Tryz.func61, Tryz.ntmps61
  rw [hs1]
  go_wp2_with fail
  refine HTK.out.mono ?_
  rintro e w4 ⟨rfl, hu4, hr4⟩
  have HK4 := Lib.hid (hK2.out _ _ _ _ _ _ _ H0.out HII.out.1 HII.out.2 hu4 hr4)
  obtain ⟨hi1, hR1, hm1⟩ := HST.out
  have HR1 := Lib.hid hR1
  clear hu4 hr4 HTK H0 HST hR1 hs1
  go_wp2_with fail
  go_loopg [4] (if b1 = true then 0 else l.length - i1) (fun gk x4 wr => ∃ (xs : List α) (i : Nat) (b : Bool) (m : Nat) (first : Bool), x4 = .bool first ∧ gk = (if b = true then 0 else l.length - i) ∧ i < l.length ∧ l.length - i ≤ m ∧ Hid (K xs i b wr) ∧ Hid (R = (if b = true then .bad i else pL el l m i first xs)))
  case atStart => exact ⟨[], i1, b1, l.length - i, true, rfl, rfl, hi1, hm1, HK4, HR1⟩
  case round =>
    clear HK4 HR1 hi1 hm1 hi
    obtain ⟨xs, i, b, m, first, rfl, rfl, hi, hm, HK, HR⟩ := hrel
    have HRd := Lib.hid (hK1.out _ _ _ _ HK.out)
    have HBx := Lib.hid HRd.out.box
    have c0 := cellRow HBx.out 0 (.slice la l.length lc) rfl
    have c1 := cellRow HBx.out 1 (.int .i64 (i : Int)) rfl
    have c2 := cellRow HBx.out 2 (.bool b) rfl
    have hs2 : (⟨#[41]⟩ : By) = sRp := rfl
    have hs3 : (⟨#[44]⟩ : By) = sCm := rfl
    cases b
    case true =>
      have HR2 : Hid (R = .bad i) := Lib.hid (by rw [HR.out, if_pos rfl])
      have HTK := Lib.hid (take_x rb la lc S l i true sRp wr HRd.out hi hl)
      have hte : takeF l i true sRp = (i, true) := by unfold takeF; rw [if_neg (by simp)]
      rw [hte] at HTK
      clear hte HR
      go_wp2_with fail
      try rw [hs2]
      refine HTK.out.mono ?_
      rintro e w5 ⟨rfl, hu5, hr5⟩
      have HK5 := Lib.hid (hK2.out _ _ _ _ _ _ _ HK.out (Nat.le_refl _) (fun h => h) hu5 hr5)
      clear hu5 hr5 HTK
      go_wp2_with fail
      go_end0
      rw [HR2.out]
      exact ⟨rfl, xs, HK5.out⟩
    obtain ⟨m, rfl⟩ : ∃ m', m = m' + 1 := ⟨m - 1, by omega⟩
    have hr := HR.out
    rw [if_neg (by decide), pL] at hr
    have HIS := Lib.hid (is_x rb la lc S l i false sRp wr HRd.out hi hl)
    rw [Bool.not_false, Bool.true_and] at HIS
    obtain ⟨c, hc⟩ : ∃ c, isB (tk l i) sRp = c := ⟨_, rfl⟩
    rw [hc] at HIS hr
    have HC := Lib.hid hc
    have HR1 := Lib.hid hr
    clear hc hr HR
    go_wp2_with fail
    try rw [hs2]
    refine HIS.out.mono ?_
    rintro e w5 ⟨rfl, hw5⟩
    have hr5 := HRd.out.ext hw5
    have HK5 := Lib.hid (hK2.out _ _ _ _ _ _ _ HK.out (Nat.le_refl _) (fun h => h) (hw5.mono (fun _ _ h => h.elim)) hr5)
    have HRd5 := Lib.hid hr5
    clear hw5 hr5 HIS HBx c0 c1 c2 HRd HK
    cases c
    case true =>
      have HR2 : Hid (R = .ok xs (i + 1)) := Lib.hid (by rw [HR1.out, if_pos rfl])
      have HTK := Lib.hid (take_x rb la lc S l i false sRp w5 HRd5.out hi hl)
      have hte : takeF l i false sRp = (i + 1, false) := by unfold takeF; rw [HC.out, if_pos (by simp)]
      rw [hte] at HTK
      clear hte HR1
      go_wp2_with fail
      try rw [hs2]
      refine HTK.out.mono ?_
      rintro e w6 ⟨rfl, hu5, hr5⟩
      have HK6 := Lib.hid (hK2.out _ _ _ _ _ _ _ HK5.out (Nat.le_succ _) (fun h => h) hu5 hr5)
      clear hu5 hr5 HTK
      go_wp2_with fail
      go_end0
      rw [HR2.out]
      exact ⟨rfl, HK6.out⟩
    have hr := HR1.out
    rw [if_neg (by decide)] at hr
    cases first
    case true =>
      have HR2 : Hid (R = match el i with | .bad j => .bad j | .ok x j => pL el l m j false (xs ++ [x])) := Lib.hid (by rw [hr, if_neg (by simp), if_pos rfl]; cases el i <;> rfl)
      have HEL := Lib.hid (h1.out xs i w5 HK5.out hi)
      clear hr HR1 HC
      obtain ⟨q, hq⟩ : ∃ q, el (i) = q := ⟨_, rfl⟩
      have HFW := Lib.hid (hf.out (i) (by omega))
      rw [hq] at HEL HR2 HFW
      clear hq
      go_wp2_with fail
      refine HEL.out.mono ?_
      rintro e w7 ⟨rfl, hP⟩
      cases q with
      | ok x j =>
        have HK7 : Hid (K (xs ++ [x]) j false w7) := Lib.hid hP
        have hfw := HFW.out
        have hij := hfw.2.2 x j rfl
        have hjl : j < l.length := hfw.2.1
        have HR3 : Hid (R = if false = true then .bad j else pL el l m j false (xs ++ [x])) := Lib.hid (by rw [HR2.out]; rfl)
        clear hP hfw HFW HEL HR2
        go_wp2_with fail
        go_roundg (if false = true then 0 else l.length - j)
        case measure => simp; omega
        case rel => exact ⟨xs ++ [x], j, false, m, false, rfl, rfl, hjl, by omega, HK7, HR3⟩
      | bad j =>
        obtain ⟨ys, hy⟩ : ∃ ys, K ys j true w7 := hP
        have HK7 : Hid (K ys j true w7) := Lib.hid hy
        have hjl : j < l.length := HFW.out.2.1
        have HR3 : Hid (R = if true = true then .bad j else pL el l l.length j false ys) := Lib.hid (by rw [HR2.out]; rfl)
        clear hy HFW HEL HR2
        go_wp2_with fail
        go_roundg (if true = true then 0 else l.length - j)
        case measure => simp; omega
        case rel => exact ⟨ys, j, true, l.length, false, rfl, rfl, hjl, by omega, HK7, HR3⟩
    have HTK := Lib.hid (take_x rb la lc S l i false sCm w5 HRd5.out hi hl)
    obtain ⟨c2, hc2⟩ : ∃ c, isB (tk l i) sCm = c := ⟨_, rfl⟩
    have hte : takeF l i false sCm = if c2 = true then (i + 1, false) else (i, true) := by unfold takeF; rw [hc2]; simp
    rw [hte] at HTK
    rw [hc2] at hr
    have HC2 := Lib.hid hc2
    clear hte hc2 HR1 HC
    cases c2
    case false =>
      have HR2 : Hid (R = .bad i) := Lib.hid (by rw [hr, if_pos ⟨rfl, rfl⟩])
      rw [if_neg (by decide)] at HTK
      clear hr
      go_wp2_with fail
      try rw [hs3]
      refine HTK.out.mono ?_
      rintro e w6 ⟨rfl, hu5, hr5⟩
      have HK6 := Lib.hid (hK0.out _ _ _ _ HK5.out hu5 hr5)
      have HEL := Lib.hid (h2.out xs i w6 HK6.out hi)
      clear hu5 hr5 HTK
      go_wp2_with fail
      refine HEL.out.mono ?_
      rintro e w7 ⟨rfl, ys, hy⟩
      have HK7 : Hid (K ys i true w7) := Lib.hid hy
      have HR3 : Hid (R = if true = true then .bad i else pL el l l.length i false ys) := Lib.hid (by rw [HR2.out]; rfl)
      clear hy HEL HR2
      go_wp2_with fail
      go_roundg (if true = true then 0 else l.length - i)
      case measure => simp; omega
      case rel => exact ⟨ys, i, true, l.length, false, rfl, rfl, hi, by omega, HK7, HR3⟩
    have hi2 := hE.out.isB hi HC2.out
    have HR2 : Hid (R = match el (i + 1) with | .bad j => .bad j | .ok x j => pL el l m j false (xs ++ [x])) := Lib.hid (by rw [hr, if_neg (by simp), if_neg (by decide)]; cases el (i + 1) <;> rfl)
    rw [if_pos rfl] at HTK
    clear hr
    go_wp2_with fail
    try rw [hs3]
    refine HTK.out.mono ?_
    rintro e w6 ⟨rfl, hu5, hr5⟩
    have HK6 := Lib.hid (hK2.out _ _ _ _ _ _ _ HK5.out (Nat.le_succ _) (fun h => h) hu5 hr5)
    have HEL := Lib.hid (h1.out xs (i + 1) w6 HK6.out hi2)
    clear hu5 hr5 HTK
    obtain ⟨q, hq⟩ : ∃ q, el (i + 1) = q := ⟨_, rfl⟩
    have HFW := Lib.hid (hf.out (i + 1) (by omega))
    rw [hq] at HEL HR2 HFW
    clear hq
    go_wp2_with fail
    refine HEL.out.mono ?_
    rintro e w7 ⟨rfl, hP⟩
    cases q with
    | ok x j =>
      have HK7 : Hid (K (xs ++ [x]) j false w7) := Lib.hid hP
      have hfw := HFW.out
      have hij := hfw.2.2 x j rfl
      have hjl : j < l.length := hfw.2.1
      have HR3 : Hid (R = if false = true then .bad j else pL el l m j false (xs ++ [x])) := Lib.hid (by rw [HR2.out]; rfl)
      clear hP hfw HFW HEL HR2
      go_wp2_with fail
      go_roundg (if false = true then 0 else l.length - j)
      case measure => simp; omega
      case rel => exact ⟨xs ++ [x], j, false, m, false, rfl, rfl, hjl, by omega, HK7, HR3⟩
    | bad j =>
      obtain ⟨ys, hy⟩ : ∃ ys, K ys j true w7 := hP
      have HK7 : Hid (K ys j true w7) := Lib.hid hy
      have hjl : j < l.length := HFW.out.2.1
      have HR3 : Hid (R = if true = true then .bad j else pL el l l.length j false ys) := Lib.hid (by rw [HR2.out]; rfl)
      clear hy HFW HEL HR2
      go_wp2_with fail
      go_roundg (if true = true then 0 else l.length - j)
      case measure => simp; omega
      case rel => exact ⟨ys, j, true, l.length, false, rfl, rfl, hjl, by omega, HK7, HR3⟩


structure KN (rb : Nat) (la : Option Addr) (lc : Nat) (S : Nat → Prop) (l : List Tok) (ob rx n0 : Nat) (nm : By) (w0 : World) (xs : List By) (i : Nat) (b : Bool) (W : World) : Prop where
  rd : Rd rb la lc S l W i b
  obx : ∃ lv, W.heap[ob]? = some (.cells #[.string nm, lv, .string ⟨#[]⟩] 96 (0, 0)) ∧ W.ownsRow n0 9 1 lv xs.length (xs.map Value.string)
  rxx : W.heap[rx]? = some (.cells #[.pointer (some ⟨rb, 0, none⟩)] 101 (0, 0))
  sz : n0 ≤ W.heap.size
  up : Upd (fun k => k = rb ∨ w0.heap.size ≤ k) w0 W
  ln : xs.length ≤ i + (if b = true then 1 else 0)
theorem KN.to {rb : Nat} {la : Option Addr} {lc : Nat} {S : Nat → Prop} {l : List Tok} {ob rx n0 : Nat} {nm : By} {w0 W W' : World} {xs : List By} {i i' : Nat} {b b' : Bool} (h : KN rb la lc S l ob rx n0 nm w0 xs i b W) (h1 : rb < n0) (h2 : ob ≠ rb) (h3 : rx ≠ rb) (hii : i ≤ i') (hbb : b = true → b' = true) (hu : Upd (fun k => k = rb) W W') (hr : Rd rb la lc S l W' i' b') : KN rb la lc S l ob rx n0 nm w0 xs i' b' W' := by
  obtain ⟨lv, k1, k2⟩ := h.obx
  exact ⟨hr, ⟨lv, hu.heap k1 h2, own_kept k2 hu (fun j hj e => by have := (k2.lt j hj).1; omega)⟩, hu.heap h.rxx h3, Nat.le_trans h.sz hu.size, h.up.trans (hu.mono fun _ _ e => .inl e), by
    have h4 := h.ln
    cases b
    · simp at h4; omega
    · rw [hbb rfl]; simp at h4 ⊢; omega⟩
set_option maxRecDepth 100000 in
set_option maxHeartbeats 4000000 in
theorem name62_x (rb : Nat) (la : Option Addr) (lc : Nat) (S : Nat → Prop) (l : List Tok) (ob rx n0 : Nat) (nm : By) (w0 : World) (hl : l.length ≤ 1000000) (h1 : rb < n0) (h2 : ob ≠ rb) (h3 : rx ≠ rb) (hob : ob < n0) (hob0 : w0.heap.size ≤ ob) (hrx : rx < n0) (hrx2 : rx ≠ ob) (hSn : ∀ k, S k → k < w0.heap.size) (hn0 : w0.heap.size ≤ n0)
    (xs : List By) (i : Nat) (b : Bool) (w : World) (h0 : KN rb la lc S l ob rx n0 nm w0 xs i b w) (hi : i < l.length) (hln : xs.length ≤ i) :
    Calls Tryz.prog 62 #[.pointer (some ⟨ob, 0, none⟩), .pointer (some ⟨rx, 0, none⟩)] w fun e w' => e = .returned (.tuple #[]) ∧ KN rb la lc S l ob rx n0 nm w0 (xs ++ [(nameF l i b).1]) (nameF l i b).2.1 (nameF l i b).2.2 w' := by
  obtain ⟨lv, hbx, hown⟩ := h0.obx
  obtain ⟨la0, lc0, hlv⟩ := own_shape hown
  subst hlv
  have HK := Lib.hid h0
  have HOW := Lib.hid hown
  have HBX := Lib.hid hbx
  have HNM := Lib.hid (fun W (hW : Ext w W) => name_x rb la lc S l i b W (h0.rd.ext hW) hi hl)
  have hNF : (nameF l i b).2.1 = i + (if (nameF l i b).2.2 = true then 0 else 1) ∧ (b = true → (nameF l i b).2.2 = true) := by
    unfold nameF
    by_cases hc : b = false ∧ (tk l i).kind = 1
    · rw [if_pos hc]; exact ⟨rfl, fun h => by rw [hc.1] at h; cases h⟩
    · rw [if_neg hc]; exact ⟨rfl, fun _ => rfl⟩
  obtain ⟨⟨nx, i2, b2⟩, hnf⟩ : ∃ p, nameF l i b = p := ⟨_, rfl⟩
  rw [hnf] at HNM hNF
  rw [hnf]
  dsimp only at HNM hNF ⊢
  have HNF := Lib.hid hNF
  obtain ⟨i0, hi9, hz0, hz1, hz2⟩ := info_parts infoS
  have hno : ¬ (Value.slice la0 xs.length lc0).ownBlock = some ob := fun e => by have := (hown.lt _ e).1; omega
  have hnr : ¬ (Value.slice la0 xs.length lc0).ownBlock = some rx := fun e => by have := (hown.lt _ e).1; omega
  have HF : Hid (∀ k, (k = rb ∨ (Value.slice la0 xs.length lc0).ownBlock = some k) → True) := Lib.hid (fun _ _ => trivial)
  have X0 : ∀ x : XF (fun k => k = rb ∨ (Value.slice la0 xs.length lc0).ownBlock = some k) w, x.val.cell? ⟨ob, 1, none⟩ = some (.slice la0 xs.length lc0) := fun x => x.upd.cell (cellRow hbx 1 _ rfl) (fun h => h.elim (fun h => h2 h) hno)
  have X1 : ∀ x : XF (fun k => k = rb ∨ (Value.slice la0 xs.length lc0).ownBlock = some k) w, x.val.cell? ⟨rx, 0, none⟩ = some (.pointer (some ⟨rb, 0, none⟩)) := fun x => x.upd.cell (cellRow h0.rxx 0 _ rfl) (fun h => h.elim (fun h => h3 h) hnr)
  clear hnf hNF h0 hbx hown HF
  go_enter Tryz.func62, Tryz.ntmps62
  refine wp_region_mix [(0, 0), (1, 0), (2, 0), (3, 1), (4, 1), (5, 1), (6, 0), (7, 2)] 7 (fun W => ∃ x : XF (fun k => k = rb ∨ (Value.slice la0 xs.length lc0).ownBlock = some k) w, W = x.val) (by kernel_rfl) (by kernel_rfl) (fun _ _ d _ _ h => by cases d <;> exact h) ⟨⟨_, (Upd.refl _ w).drew⟩, rfl⟩ ?_
  simp only [pickO, List.getElem?_cons_zero, List.getElem?_cons_succ]
  have HD : Hid (Ext w w.drew) := Lib.hid (Upd.refl (fun _ => False) w).drew
  have HSD : Hid (∃ x : XF (fun k => k = rb ∨ (Value.slice la0 xs.length lc0).ownBlock = some k) w, w.drew = x.val) := Lib.hid ⟨⟨_, (Upd.refl _ w).drew⟩, rfl⟩
  iterate 3 (refine mix_take ?_; intro K hK; go_simp; refine hK _ ?_; clear hK K)
  refine mix_one ?_ HSD.out
  intro K hK _
  go_simp
  refine (HNM.out _ HD.out).mono ?_
  rintro e w5 ⟨rfl, hu5, hr5⟩
  have HU5 : Hid (Upd (fun k => k = rb) w w5) := Lib.hid ((HD.out.mono (fun _ _ h => h.elim)).trans hu5)
  have HR5 := Lib.hid hr5
  have HS5 : Hid (∃ x : XF (fun k => k = rb ∨ (Value.slice la0 xs.length lc0).ownBlock = some k) w, w5 = x.val) := Lib.hid ⟨⟨w5, HU5.out.mono (fun _ _ e => .inl e)⟩, rfl⟩
  have hz5 := HU5.out.size
  refine hK _ _ HS5.out ?_
  clear hK K X0 X1 hu5 hr5
  have HO5 := Lib.hid (own_kept HOW.out HU5.out (fun j hj e => by have := (HOW.out.lt j hj).1; omega))
  have HB5 := Lib.hid (HU5.out.heap HBX.out h2)
  refine mix_one ?_ HS5.out
  intro K hK _
  go_simp
  have HA6 := Lib.hid ((Upd.refl (fun _ => False) w5).alloc (.cells #[.string nx] 9))
  have HN6 := Lib.hid (alloc0 w5 (.cells #[.string nx] 9))
  have hz6 : w5.heap.size + 1 ≤ (w5.alloc (.cells #[.string nx] 9)).heap.size := Nat.le_of_eq (alloc_size w5 (.cells #[.string nx] 9)).symm
  have HS6 : Hid (∃ x : XF (fun k => k = rb ∨ (Value.slice la0 xs.length lc0).ownBlock = some k) w, (w5.alloc (.cells #[.string nx] 9)) = x.val) := Lib.hid ⟨⟨_, (HU5.out.mono (fun _ _ e => .inl e)).alloc _⟩, rfl⟩
  refine hK _ _ HS6.out ?_
  clear hK K
  obtain ⟨nb, hnb⟩ : ∃ q, w5.heap.size = q := ⟨_, rfl⟩
  rw [hnb] at HN6
  try rw [hnb]
  have HO6 := Lib.hid (HO5.out.alloc (.cells #[.string nx] 9))
  have HB6 := Lib.hid (allocOld HB5.out (.cells #[.string nx] 9))
  have hsz0 := HK.out.sz
  refine mix_one ?_ HS6.out
  intro K hK _
  rw [if_pos (by rfl)]
  refine step_append_at _ (.tmp 3) (.tmp 6) 39 rfl n0 9 i0 (.string ⟨#[]⟩) 1 16 Tryz.underlying39 hi9 hz0 hz1 hz2 rfl (by decide) _ _ _ rfl HO6.out ⟨nb, 0, none⟩ 1 1 [.string nx] rfl rfl (fun j u hj => by
    match j, hj with
    | 0, hj => simp at hj; subst hj; simp only [Addr.add]; exact cellRow HN6.out 0 _ rfl) (fun u hu => by simp at hu; subst hu; rfl) (by unfold maxLen; omega) (by omega) (by omega) ?_
  intro v' w7 hG
  obtain ⟨xa, xc, hxs⟩ := own_shape hG.own
  subst hxs
  have HG := Lib.hid hG
  have hz7 := hG.upd.size
  refine hK _ _ ⟨⟨w7, (((HU5.out.mono (fun _ _ e => .inl e)).alloc _).trans (hG.upd.mono (fun _ _ e => .inr e)))⟩, rfl⟩ ?_
  clear hK K
  have hB7 := hG.upd.heap HB6.out hno
  have c1 := cellRow hB7 1 (.slice la0 xs.length lc0) rfl
  have fb := fun j => frozenRow hB7 j
  have HB7 := Lib.hid hB7
  clear hG hB7
  refine mix_take ?_
  intro K hK
  go_simp
  refine hK _ ?_
  clear hK K
  refine mix_two ?_
  intro K hK
  go_simp
  refine hK _ _ ?_
  clear hK K
  simp only [wpMix]
  go_wp2_with fail
  go_end0
  refine ⟨rfl, ?_⟩
  have hb8 := setBlock HB7.out 1 (.slice xa (xs.length + 1) xc)
  have hu8 := (Upd.refl (fun k => k = ob) w7).setCell (p := ⟨ob, 1, none⟩) (.inl rfl) (.slice xa (xs.length + 1) xc)
  have hz8 := hu8.size
  have hU7 : Upd (fun k => (Value.slice la0 xs.length lc0).ownBlock = some k) w5 w7 := (HA6.out.mono (fun _ _ h => h.elim)).trans HG.out.upd
  have hR7 : Rd rb la lc S l w7 i2 b2 := HR5.out.keep hU7 (fun e => by have := (HO5.out.lt _ e).1; omega) (fun k hk e => by have h9 := (HO5.out.lt _ e).1; have h10 := hSn k hk; omega)
  have hup := HK.out.up
  refine ⟨hR7.keep hu8 (fun e => h2 e.symm) (fun k hk e => by have h10 := hSn k hk; omega), ⟨_, by simpa using hb8, ?_⟩, ?_, by omega, ?_, ?_⟩
  · have ho := own_kept HG.out.own hu8 (fun j hj e => by have := (HG.out.own.lt j hj).1; omega)
    rw [List.map_append, List.length_append]
    exact ho
  · exact hu8.heap (hU7.heap (HU5.out.heap HK.out.rxx h3) hnr) hrx2
  · refine ((hup.trans (HU5.out.mono (fun _ _ e => .inl e))).trans' hU7 (fun j hj e => ?_)).trans' hu8 (fun j hj e => .inr (by omega))
    exact .inr (by have := (HO5.out.lt _ e).1; omega)
  · have h9 := HNF.out.1
    rw [List.length_append, List.length_singleton]
    by_cases hb2 : b2 = true
    · rw [if_pos hb2] at h9 ⊢; omega
    · rw [if_neg hb2] at h9 ⊢; omega

end Go.Proofs.YtjjaknmnhhfjeaaGreatDoor

/- Signatures are read: what lies in memory meanwhile. -/
namespace Go.Proofs.YtjjaknmnhhfjeaaGreatDoor
open Go.RowKit Go.Hw Go Go.Sort Go.Proofs Go.ChangeMaps
set_option linter.unusedVariables false
set_option linter.unusedSimpArgs false

open Tm
theorem dCells_snoc : ∀ (os : List Dc) (us : List Value) (d : Dc) (u : Value), us.length = os.length → dCells (os ++ [d]) (us ++ [u]) = dCells os us ++ [.string d.1, u, .string d.2.2]
  | [], [], d, u, _ => rfl
  | o :: os, v :: us, d, u, h => by
    have ih := dCells_snoc os us d u (by simpa using h)
    simp [dCells, ih]
structure SJ (rb : Nat) (la : Option Addr) (lc : Nat) (S : Nat → Prop) (l : List Tok) (gb rx : Nat) (w0 : World) (sv : Value) (xs : List By) (i : Nat) (b : Bool) (W : World) : Prop where
  rd : Rd rb la lc S l W i b
  gbx : W.heap[gb]? = some (.cells #[sv, .slice none 0 0] 42 (0, 0))
  own : W.ownsRow w0.heap.size 9 1 sv xs.length (xs.map Value.string)
  rxx : W.heap[rx]? = some (.cells #[.pointer (some ⟨rb, 0, none⟩)] 101 (0, 0))
  up : Upd (fun k => k = rb ∨ k = gb) w0 W
  ln : xs.length ≤ i
structure DJ (rb : Nat) (la : Option Addr) (lc : Nat) (S : Nat → Prop) (l : List Tok) (gb rx : Nat) (w0 : World) (T : Nat → Prop) (ss : List By) (sa : Option Addr) (sc : Nat) (ov : Value) (B : Nat → Prop) (us : List Value) (os : List Dc) (i : Nat) (b : Bool) (W : World) : Prop where
  rd : Rd rb la lc S l W i b
  gbx : W.heap[gb]? = some (.cells #[.slice sa ss.length sc, ov] 42 (0, 0))
  srt : StrR T W (.slice sa ss.length sc) ss
  own : W.ownsRow w0.heap.size 96 3 ov os.length (dCells os us)
  bs : ∀ k, B k → w0.heap.size ≤ k ∧ k < W.heap.size ∧ ¬ ov.ownBlock = some k
  ags : ∀ j, j < os.length → StrR B W (ug us j) (dg os j).2.1
  rxx : W.heap[rx]? = some (.cells #[.pointer (some ⟨rb, 0, none⟩)] 101 (0, 0))
  up : Upd (fun k => k = rb ∨ k = gb) w0 W
  ln : os.length ≤ i
  ul : us.length = os.length
  al : ∀ d ∈ os, d.2.1.length ≤ l.length
section
variable {rb : Nat} {la : Option Addr} {lc : Nat} {S T B U : Nat → Prop} {l : List Tok} {gb rx : Nat} {w0 W W' W5 W6 : World} {ss xs : List By} {sa : Option Addr} {sc : Nat} {sv ov u v' : Value} {us : List Value} {os : List Dc} {i i' : Nat} {b b' : Bool}
theorem SJ.to (h : SJ rb la lc S l gb rx w0 sv xs i b W) (h1 : rb < w0.heap.size) (h2 : gb ≠ rb) (h3 : rx ≠ rb) (hu : Upd (fun k => k = rb) W W') (hr : Rd rb la lc S l W' i' b') (hi : i ≤ i') : SJ rb la lc S l gb rx w0 sv xs i' b' W' :=
  ⟨hr, hu.heap h.gbx h2, own_kept h.own hu (fun j hj e => by have := (h.own.lt j hj).1; omega), hu.heap h.rxx h3, h.up.trans (hu.mono fun _ _ e => .inl e), Nat.le_trans h.ln hi⟩
theorem DJ.to (h : DJ rb la lc S l gb rx w0 T ss sa sc ov B us os i b W) (h1 : rb < w0.heap.size) (h2 : gb ≠ rb) (h3 : rx ≠ rb) (hT : ∀ k, T k → k ≠ rb) (hu : Upd (fun k => k = rb) W W') (hr : Rd rb la lc S l W' i' b') (hi : i ≤ i') : DJ rb la lc S l gb rx w0 T ss sa sc ov B us os i' b' W' :=
  ⟨hr, hu.heap h.gbx h2, SlR.kept h.srt hu hT, own_kept h.own hu (fun j hj e => by have := (h.own.lt j hj).1; omega), fun k hk => ⟨(h.bs k hk).1, Nat.lt_of_lt_of_le (h.bs k hk).2.1 hu.size, (h.bs k hk).2.2⟩,
    fun j hj => SlR.kept (h.ags j hj) hu (fun k hk e => by have := (h.bs k hk).1; omega), hu.heap h.rxx h3, h.up.trans (hu.mono fun _ _ e => .inl e), Nat.le_trans h.ln hi, h.ul, h.al⟩
theorem SJ.push (h : SJ rb la lc S l gb rx w0 sv xs i b W) (x : By) (h1 : rb < w0.heap.size) (h2 : gb ≠ rb) (h3 : rx ≠ rb) (h4 : gb < w0.heap.size) (h5 : rx < w0.heap.size) (h6 : rx ≠ gb) (hS : ∀ k, S k → k < w0.heap.size ∧ k ≠ gb)
    (hu : Upd (fun k => k = rb) W W5) (hr : Rd rb la lc S l W5 i' b') (hG : Grew w0.heap.size 9 1 sv (xs.length + 1) (xs.map Value.string ++ [.string x]) W5 W6 v') (hi : xs.length + 1 ≤ i') : SJ rb la lc S l gb rx w0 v' (xs ++ [x]) i' b' (W6.setCell ⟨gb, 0, none⟩ v') := by
  have ho := fun j (hj : sv.ownBlock = some j) => h.own.lt j hj
  have hu8 := (Upd.refl (fun k => k = gb) W6).setCell (p := ⟨gb, 0, none⟩) (.inl rfl) v'
  have hb8 := setBlock (hG.upd.heap (hu.heap h.gbx h2) (fun e => by have := (ho _ e).1; omega)) 0 v'
  refine ⟨(hr.keep hG.upd (fun e => by have := (ho _ e).1; omega) (fun k hk e => by have := (ho _ e).1; have := (hS k hk).1; omega)).keep hu8 (fun e => h2 e.symm) (fun k hk e => (hS k hk).2 e), by simpa using hb8, ?_, hu8.heap (hG.upd.heap (hu.heap h.rxx h3) (fun e => by have := (ho _ e).1; omega)) h6, ?_, ?_⟩
  · have := own_kept hG.own hu8 (fun j hj e => by have := (hG.own.lt j hj).1; omega)
    rw [List.map_append, List.length_append]
    exact this
  · exact ((h.up.trans (hu.mono fun _ _ e => .inl e)).trans' hG.upd (fun j hj e => by have := (ho _ e).1; omega)).trans (hu8.mono fun _ _ e => .inr e)
  · rw [List.length_append]; exact hi
theorem ug_snoc (hul : us.length = os.length) (j : Nat) (hj : j < os.length) : ug (us ++ [u]) j = ug us j := by
  unfold ug
  rw [List.getD_eq_getElem?_getD, List.getD_eq_getElem?_getD, List.getElem?_append_left (by omega)]
theorem dg_snoc (d : Dc) (j : Nat) (hj : j < os.length) : dg (os ++ [d]) j = dg os j := by
  unfold dg
  rw [List.getD_eq_getElem?_getD, List.getD_eq_getElem?_getD, List.getElem?_append_left hj]
theorem DJ.push (h : DJ rb la lc S l gb rx w0 T ss sa sc ov B us os i b W) (d : Dc) (h1 : rb < w0.heap.size) (h2 : gb ≠ rb) (h3 : rx ≠ rb) (h4 : gb < w0.heap.size) (h5 : rx < w0.heap.size) (h6 : rx ≠ gb) (hS : ∀ k, S k → k < w0.heap.size ∧ k ≠ gb)
    (hT : ∀ k, T k → k < w0.heap.size ∧ k ≠ rb ∧ k ≠ gb) (hu : Upd (fun k => k = rb) W W5) (hr : Rd rb la lc S l W5 i' b') (hU : ∀ k, U k → W.heap.size ≤ k ∧ k < W5.heap.size) (ha : StrR U W5 u d.2.1) (hal : d.2.1.length ≤ l.length)
    (hG : Grew w0.heap.size 96 3 ov (os.length + 1) (dCells os us ++ [.string d.1, u, .string d.2.2]) W5 W6 v') (hi : os.length + 1 ≤ i') : DJ rb la lc S l gb rx w0 T ss sa sc v' (fun k => B k ∨ U k) (us ++ [u]) (os ++ [d]) i' b' (W6.setCell ⟨gb, 1, none⟩ v') := by
  have ho := fun j (hj : ov.ownBlock = some j) => h.own.lt j hj
  have hw := h.up.size
  have hz := hu.size
  have hz2 := hG.upd.size
  have hu8 := (Upd.refl (fun k => k = gb) W6).setCell (p := ⟨gb, 1, none⟩) (.inl rfl) v'
  have hz3 := hu8.size
  have hb8 := setBlock (hG.upd.heap (hu.heap h.gbx h2) (fun e => by have := (ho _ e).1; omega)) 1 v'
  refine ⟨(hr.keep hG.upd (fun e => by have := (ho _ e).1; omega) (fun k hk e => by have := (ho _ e).1; have := (hS k hk).1; omega)).keep hu8 (fun e => h2 e.symm) (fun k hk e => (hS k hk).2 e), by simpa using hb8, ?_, ?_, ?_, ?_, hu8.heap (hG.upd.heap (hu.heap h.rxx h3) (fun e => by have := (ho _ e).1; omega)) h6, ?_, ?_, ?_, ?_⟩
  · exact SlR.kept (SlR.kept (SlR.kept h.srt hu (fun k hk => (hT k hk).2.1)) hG.upd (fun k hk e => by have := (ho _ e).1; have := (hT k hk).1; omega)) hu8 (fun k hk => (hT k hk).2.2)
  · have := own_kept hG.own hu8 (fun j hj e => by have := (hG.own.lt j hj).1; omega)
    rw [dCells_snoc _ _ _ _ h.ul, List.length_append]
    exact this
  · intro k hk
    have hv : k < W5.heap.size ∧ w0.heap.size ≤ k ∧ ¬ ov.ownBlock = some k := by
      rcases hk with hk | hk
      · have := h.bs k hk
        exact ⟨by omega, this.1, this.2.2⟩
      · have := hU k hk
        exact ⟨this.2, by omega, fun e => by have := (ho _ e).2; omega⟩
    refine ⟨hv.2.1, by omega, fun e => ?_⟩
    rcases hG.where_ with e2 | e2
    · exact hv.2.2 (e2 ▸ e)
    · rw [e2] at e; injection e with e; omega
  · intro j hj
    rw [List.length_append] at hj
    by_cases hjn : j < os.length
    · rw [ug_snoc h.ul j hjn, dg_snoc d j hjn]
      exact (SlR.kept (SlR.kept (SlR.kept (h.ags j hjn) hu (fun k hk e => by have := (h.bs k hk).1; omega)) hG.upd (fun k hk e => (h.bs k hk).2.2 e)) hu8 (fun k hk e => by have := (h.bs k hk).1; omega)).weaken (fun k hk => .inl hk)
    · have hj2 : j = os.length := by simp at hj; omega
      subst hj2
      have e1 : ug (us ++ [u]) os.length = u := by
        unfold ug
        rw [List.getD_eq_getElem?_getD, List.getElem?_append_right (by rw [h.ul]; exact Nat.le_refl _), h.ul, Nat.sub_self]
        rfl
      have e2 : dg (os ++ [d]) os.length = d := by
        unfold dg
        rw [List.getD_eq_getElem?_getD, List.getElem?_append_right (Nat.le_refl _), Nat.sub_self]
        rfl
      rw [e1, e2]
      exact (SlR.kept (SlR.kept ha hG.upd (fun k hk e => by have := (ho _ e).2; have := hU k hk; omega)) hu8 (fun k hk e => by have := hU k hk; omega)).weaken (fun k hk => .inr hk)
  · exact ((h.up.trans (hu.mono fun _ _ e => .inl e)).trans' hG.upd (fun j hj e => by have := (ho _ e).1; omega)).trans (hu8.mono fun _ _ e => .inr e)
  · rw [List.length_append]; exact hi
  · rw [List.length_append, List.length_append, h.ul]; rfl
  · intro x hx
    rcases List.mem_append.1 hx with hx | hx
    · exact h.al x hx
    · rw [List.mem_singleton.1 hx]; exact hal
theorem DJ.sg (h : DJ rb la lc S l gb rx w0 T ss sa sc ov B us os i b W) {n0 : Nat} (hT : ∀ k, T k → n0 ≤ k ∧ k < w0.heap.size) (hn : n0 ≤ w0.heap.size) : ∃ oa oc, ov = .slice oa os.length oc ∧ SgR (fun k => n0 ≤ k ∧ k < W.heap.size) W (ss, os) (.agg #[.slice sa ss.length sc, ov]) := by
  obtain ⟨oa, oc, ho⟩ := own_shape h.own
  have hz := h.up.size
  refine ⟨oa, oc, ho, sa, sc, oa, oc, by rw [ho], SlR.weaken h.srt (fun k hk => ⟨(hT k hk).1, by have := (hT k hk).2; omega⟩), us, ?_, fun j hj => SlR.weaken (h.ags j hj) (fun k hk => ⟨by have := (h.bs k hk).1; omega, (h.bs k hk).2.1⟩)⟩
  rw [← ho]
  exact (SlR.of_own h.own).weaken (fun k hk => ⟨by have := (h.own.lt k hk).1; omega, (h.own.lt k hk).2⟩)
end

end Go.Proofs.YtjjaknmnhhfjeaaGreatDoor
