/- The texts I54 I55, one behind the other. -/
import Derived.Test.YtiimccogojkldaaGreatDoorZL
/- Descends of the program. -/
namespace Go.Proofs.YtiimccogojkldaaGreatDoor
open Go.RowKit Go.Hw Go
set_option linter.unusedVariables false
set_option linter.unusedSimpArgs false

open Tm
/-- the first term that is not greater than the next one -/
def dixF (ops : List By) (L : List Tm) : Nat := (List.range (L.length - 1)).findIdx fun i => !gt (ixF ops) (tg L i) (tg L (i + 1))
def dscF (ops : List By) (L : List Tm) : Bool × Int × Int :=
  if precP nmB ops = false ∨ L.all (wf nmB) = false then (false, 0, 1) else
    if L.all (knowsP ops) = false then (false, 0, 9) else if dixF ops L < L.length - 1 then (false, (dixF ops L : Int), 0) else (true, -1, 0)
theorem dix_hit {ops : List By} {L : List Tm} {k : Nat} (h : ∀ j, j < k → gt (ixF ops) (tg L j) (tg L (j + 1)) = true) (hk : k < L.length - 1) (h2 : gt (ixF ops) (tg L k) (tg L (k + 1)) = false) : dixF ops L = k := by
  unfold dixF
  rcases Nat.lt_trichotomy ((List.range (L.length - 1)).findIdx fun i => !gt (ixF ops) (tg L i) (tg L (i + 1))) k with e | e | e
  · have h1 : ((List.range (L.length - 1)).findIdx fun i => !gt (ixF ops) (tg L i) (tg L (i + 1))) < (List.range (L.length - 1)).length := by rw [List.length_range]; omega
    have h3 := List.findIdx_getElem (w := h1)
    rw [List.getElem_range, h _ e] at h3; cases h3
  · exact e
  · have h3 := List.not_of_lt_findIdx e
    rw [List.getElem_range, h2] at h3; cases h3
theorem dix_none {ops : List By} {L : List Tm} (h : ∀ j, j + 1 < L.length → gt (ixF ops) (tg L j) (tg L (j + 1)) = true) : ¬ dixF ops L < L.length - 1 := by
  intro h1
  have h0 := h1
  unfold dixF at h1
  have h2 : ((List.range (L.length - 1)).findIdx fun i => !gt (ixF ops) (tg L i) (tg L (i + 1))) < (List.range (L.length - 1)).length := by rw [List.length_range]; exact h1
  have h3 := List.findIdx_getElem (w := h2)
  rw [List.getElem_range, h _ (by omega)] at h3; cases h3
set_option maxRecDepth 100000 in
set_option maxHeartbeats 2000000 in
theorem desc_x (ops : List By) (L : List Tm) (ov lv : Value) (w : World) (hO : StR (fun k => k < w.heap.size) w ov ops) (hR : TlR (fun k => k < w.heap.size) w L lv) (htab : AscT w) (hpow : Lib.TabIs Tryz.prog w "internal/strconv.uint64pow10" .u64 Lib.pow10Tab) (hol : ops.length ≤ 1000000) (hl : L.length ≤ 100) (hz : ∀ t ∈ L, t.size ≤ 400) :
    Calls Tryz.prog 23 #[ov, lv] w fun e w' => e = .returned (.tuple #[.bool (dscF ops L).1, .int .i64 (dscF ops L).2.1, .int .i64 (dscF ops L).2.2]) ∧ Ext w w' := by
  have HPR := Lib.hid (prec_x ops ov _ w hO htab hol)
  have HNO := Lib.hid (fun (hp : precP nmB ops = true) W (hW : Ext w W) => newO_x ops ov (fun k => k < w.heap.size) w.heap.size W (SlR.kept hO hW (fun _ _ h => h)) (fun k hk => Nat.lt_of_lt_of_le hk hW.size) ((precP_iff _ _).1 hp).2.2 hW.size hol)
  have HKN := Lib.hid (fun W (hW : Ext w W) => know_x ops L ov lv _ W (SlR.weaken (SlR.kept hO hW (fun _ _ h => h)) (fun k hk => Nat.lt_of_lt_of_le hk hW.size)) ((hR.ext hW).weaken (fun k hk => Nat.lt_of_lt_of_le hk hW.size)) (fun k hk => hk) hol (by omega) (fun t ht => by have := hz t ht; omega))
  have HFO := Lib.hid (fun W (hW : Ext w W) => forms_x L lv W (asc_ext htab hW) ((hR.ext hW).weaken (fun k hk => Nat.lt_of_lt_of_le hk hW.size)) (by omega) (fun t ht => by have := hz t ht; omega))
  have HPOW := Lib.hid (fun W (hW : Ext w W) W2 (h2 : Upd (fun j => w.heap.size ≤ j) W W2) => pow_upd hpow ((hW.mono (G := fun j => w.heap.size ≤ j) (fun _ _ x => x.elim)).trans h2) (fun k hk h => by omega))
  have HZ := Lib.hid hz
  have HR := Lib.hid hR
  obtain ⟨oa, oc, rfl⟩ := SlR.shape hO
  obtain ⟨la, lc, rfl⟩ := hR.shape
  clear hR hO hz htab hpow
  obtain ⟨P, hP⟩ : ∃ x, precP nmB ops = x := ⟨_, rfl⟩
  have HP := Lib.hid hP
  rw [hP] at HPR
  obtain ⟨Fm, hF⟩ : ∃ x, L.all (wf nmB) = x := ⟨_, rfl⟩
  have HF := Lib.hid hF
  rw [hF] at HFO
  obtain ⟨K, hK⟩ : ∃ x, L.all (knowsP ops) = x := ⟨_, rfl⟩
  have HK := Lib.hid hK
  rw [hK] at HKN
  clear hP hF hK
  have z1 : ¬ (1000 : Int) < (L.length : Int) := by omega
  go_enter Tryz.func23, Tryz.ntmps23
  go_wp2_with fail
  cases P
  · have HV : Hid (dscF ops L = (false, 0, 1)) := Lib.hid (by unfold dscF; rw [if_pos (.inl HP.out)])
    refine HPR.out.mono ?_
    rintro e w4 ⟨rfl, hw4⟩
    have H4 := Lib.hid hw4
    clear hw4 HPR
    go_wp2_with fail
    go_ret3
    rw [HV.out]
    exact ⟨rfl, H4.out⟩
  refine HPR.out.mono ?_
  rintro e w4 ⟨rfl, hw4⟩
  have H4 := Lib.hid hw4
  clear hw4 HPR
  go_wp2_with fail
  cases Fm
  · have HV : Hid (dscF ops L = (false, 0, 1)) := Lib.hid (by unfold dscF; rw [if_pos (.inr HF.out)])
    refine (HFO.out _ H4.out).mono ?_
    rintro e w5 ⟨rfl, hw5⟩
    have H5 := Lib.hid (H4.out.trans hw5)
    clear hw5 HFO
    go_wp2_with fail
    go_ret3
    rw [HV.out]
    exact ⟨rfl, H5.out⟩
  refine (HFO.out _ H4.out).mono ?_
  rintro e w5 ⟨rfl, hw5⟩
  have H5 := Lib.hid (H4.out.trans hw5)
  clear hw5 HFO
  have HN1 : Hid (¬ (precP nmB ops = false ∨ L.all (wf nmB) = false)) := Lib.hid (by rw [HP.out, HF.out]; simp)
  go_wp2_with fail
  clear z1
  cases K
  · have HV : Hid (dscF ops L = (false, 0, 9)) := Lib.hid (by unfold dscF; rw [if_neg HN1.out, if_pos HK.out])
    refine (HKN.out _ H5.out).mono ?_
    rintro e w6 ⟨rfl, hw6⟩
    have H6 := Lib.hid (H5.out.trans hw6)
    clear hw6 HKN
    go_wp2_with fail
    go_ret3
    rw [HV.out]
    exact ⟨rfl, H6.out⟩
  refine (HKN.out _ H5.out).mono ?_
  rintro e w6 ⟨rfl, hw6⟩
  have H6 := Lib.hid (H5.out.trans hw6)
  clear hw6 HKN
  have HN2 : Hid (¬ L.all (knowsP ops) = false) := Lib.hid (by rw [HK.out]; simp)
  have HOK : Hid (∀ t ∈ L, ∀ x ∈ sbts t, OkN ops x) := Lib.hid (fun t ht x hx => wf_ok (List.all_eq_true.1 HF.out t ht) (List.all_eq_true.1 HK.out t ht) x hx)
  have HNO1 := Lib.hid (HNO.out HP.out)
  clear HNO
  go_wp2_with fail
  refine (HNO1.out _ H6.out).mono ?_
  rintro e w7 ⟨bb, B, rfl, ho7, hw7, hb7⟩
  have HJ0 : Hid (∃ N B', OrdR 144 114 ops (fun _ => False) B' w.heap.size w7 bb N ∧ N.length ≤ 800 * (1 - 1) ∧ Ext w w7) := Lib.hid ⟨[], B, ho7, Nat.le_refl _, H6.out.trans hw7⟩
  clear ho7 hw7 hb7 HNO1
  go_wp2_with fail
  go_loopg [8] L.length (fun gk iv wr => ∃ m : Nat, iv = .int .i64 (m : Int) ∧ gk = L.length + 1 - m ∧ 1 ≤ m ∧ m ≤ L.length + 1 ∧ Hid (∃ N B', OrdR 144 114 ops (fun _ => False) B' w.heap.size wr bb N ∧ N.length ≤ 800 * (m - 1) ∧ Ext w wr) ∧ Hid (∀ j, j + 1 < m → gt (ixF ops) (tg L j) (tg L (j + 1)) = true))
  case atStart => exact ⟨1, rfl, by omega, Nat.le_refl _, by omega, HJ0, Lib.hid (fun j h => absurd h (by omega))⟩
  case round =>
    clear HJ0
    obtain ⟨m, rfl, rfl, hm1, hm2, HJ, HM⟩ := hrel
    by_cases hlt : m < L.length
    · obtain ⟨N, B', ho, hN, hE⟩ := HJ.out
      obtain ⟨g, off, hga, _, hat⟩ := (HR.out.ext hE).at_ (by omega)
      subst hga
      obtain ⟨p, hp⟩ : ∃ p, m - 1 = p := ⟨_, rfl⟩
      have hpm : p + 1 = m := by omega
      obtain ⟨xa, xc, q0, q1, q2, hx⟩ := hat p (by omega)
      obtain ⟨ya, yc, r0, r1, r2, hy⟩ := hat m hlt
      rw [← Nat.add_assoc] at q1 q2 r1 r2
      have z0 : (0 : Int) ≤ (m : Int) := by omega
      have z1 : (m : Int) < (L.length : Int) := by omega
      have z2 : decide ((m : Int) < (L.length : Int)) = true := decide_eq_true z1
      have z2' : decide (m < L.length) = true := decide_eq_true hlt
      have y0 : (0 : Int) ≤ (p : Int) := by omega
      have y1 : (p : Int) < (L.length : Int) := by omega
      have yw : IntKind.i64.wrap ((m : Int) - 1) = (p : Int) := by rw [IntWalk.i64_in _ (by omega)]; omega
      have hmx := tg_in (L := L) (k := p) (by omega)
      have hmy := tg_in hlt
      have hsx := HZ.out _ hmx
      have hsy := HZ.out _ hmy
      have HCM := Lib.hid (fun W (hW : Ext wr W) => ocomp_x ops w.heap.size bb N (tg L p) (tg L m) _ _ B' (fun k => k < w.heap.size) W (ho.ext hW) ⟨xa, xc, rfl, hx.ext hW⟩ ⟨ya, yc, rfl, hy.ext hW⟩ (fun k hk => hk) (hE.trans hW).size (by omega) (HOK.out _ hmx) (HOK.out _ hmy) (HPOW.out W (hE.trans hW)))
      have HBL : Hid (∀ j, B' j → w.heap.size ≤ j) := Lib.hid (fun j hj => (ord_lt ho j hj).1)
      have HE := Lib.hid hE
      have HN : Hid (gt (ixF ops) (tg L p) (tg L m) = true → ∀ j, j + 1 < m + 1 → gt (ixF ops) (tg L j) (tg L (j + 1)) = true) := Lib.hid (fun h j hj => by
        by_cases e : j = p
        · rw [e, hpm]; exact h
        · exact HM.out j (by omega))
      have HY : Hid (gt (ixF ops) (tg L p) (tg L m) = false → dscF ops L = (false, (p : Int), 0)) := Lib.hid (fun h => by
        have hd : dixF ops L = p := dix_hit (fun j hj => HM.out j (by omega)) (by omega) (by rw [hpm]; exact h)
        unfold dscF
        rw [if_neg HN1.out, if_neg HN2.out, hd, if_pos (by omega)])
      have HSZ : Hid (N.length + (tg L p).size + (tg L m).size ≤ 800 * (m + 1 - 1)) := Lib.hid (by omega)
      obtain ⟨x, hxx⟩ : ∃ x, tg L p = x := ⟨_, rfl⟩
      obtain ⟨y, hyy⟩ : ∃ y, tg L m = y := ⟨_, rfl⟩
      rw [hxx] at q0 q1 q2 HCM HN HY HSZ
      rw [hyy] at r0 r1 r2 HCM HN HY HSZ
      dsimp only [tV] at HCM
      obtain ⟨b, hb⟩ : ∃ b, gt (ixF ops) x y = b := ⟨_, rfl⟩
      rw [hb] at HCM HN HY
      clear hat hx hy ho hN hE hmx hmy hsx hsy hxx hyy hb HJ HM hp
      go_wp2_with fail
      go_still_tail 10, (by kernel_rfl)
      change wpList _ _ _ _ _ wr.drew
      go_wp2_with fail
      refine (HCM.out wr.drew ((Upd.refl _ wr).drewN' 1)).mono ?_
      rintro e w8 ⟨N', B'', rfl, ho8, hu8, hb8, hn8⟩
      have HE8 : Hid (Ext w w8) := Lib.hid (HE.out.drew.trans' hu8 (fun j hj h => by have := HBL.out j h; omega))
      have HJ8 : Hid (∃ N B', OrdR 144 114 ops (fun _ => False) B' w.heap.size w8 bb N ∧ N.length ≤ 800 * (m + 1 - 1) ∧ Ext w w8) := Lib.hid ⟨N', B'', ho8, Nat.le_trans hn8 HSZ.out, HE8.out⟩
      clear ho8 hu8 hb8 hn8 q0 q1 q2 r0 r1 r2 HCM HBL HE HSZ
      cases b
      · have HV := Lib.hid (HY.out rfl)
        clear HN HY
        go_wp2_with fail
        go_ret3
        rw [HV.out]
        exact ⟨rfl, HE8.out⟩
      · have HM8 := Lib.hid (HN.out rfl)
        clear HN HY
        go_wp2_with fail
        go_roundg (L.length + 1 - (m + 1))
        case measure => omega
        case rel => exact ⟨m + 1, by go_num, rfl, by omega, by omega, HJ8, HM8⟩
    · have z1 : ¬ (m : Int) < (L.length : Int) := by omega
      have z2 : decide ((m : Int) < (L.length : Int)) = false := decide_eq_false z1
      have z2' : decide (m < L.length) = false := decide_eq_false hlt
      have HV : Hid (dscF ops L = (true, -1, 0)) := Lib.hid (by
        unfold dscF
        rw [if_neg HN1.out, if_neg HN2.out, if_neg (dix_none (fun j hj => HM.out j (by omega)))])
      have HE : Hid (Ext w wr) := Lib.hid (by obtain ⟨_, _, _, _, h⟩ := HJ.out; exact h)
      go_wp2_with fail
      go_ret3
      rw [HV.out]
      exact ⟨rfl, HE.out⟩

end Go.Proofs.YtiimccogojkldaaGreatDoor

/- Descends of the reference. -/
namespace Go.Proofs.YtiimccogojkldaaGreatDoor
open Go.RowKit Go.Hw Go
set_option linter.unusedVariables false
set_option linter.unusedSimpArgs false

open Tm
set_option maxRecDepth 100000 in
set_option maxHeartbeats 2000000 in
theorem rdesc_x (ops : List By) (L : List Tm) (ov lv : Value) (w : World) (hO : StR (fun k => k < w.heap.size) w ov ops) (hR : TlR (fun k => k < w.heap.size) w L lv) (hol : ops.length ≤ 1000000) (hl : L.length ≤ 100) (hz : ∀ t ∈ L, t.size ≤ 400) :
    Calls Tryz.prog 24 #[ov, lv] w fun e w' => e = .returned (.tuple #[.bool (dscF ops L).1, .int .i64 (dscF ops L).2.1, .int .i64 (dscF ops L).2.2]) ∧ Ext w w' := by
  have HPR := Lib.hid (rprec_x ops ov _ w hO)
  have HTS : Hid (∀ t ∈ L, t.size ≤ 100000) := Lib.hid (fun t ht => by
    have := hz t ht
    omega)
  obtain ⟨oa, oc, rfl⟩ := SlR.shape hO
  obtain ⟨a, cap, rfl⟩ := hR.shape
  have HR := Lib.hid hR
  have HO := Lib.hid hO
  clear hR hO hz
  obtain ⟨P, hP⟩ : ∃ x, precP nmB ops = x := ⟨_, rfl⟩
  have HP := Lib.hid hP
  rw [hP] at HPR
  clear hP
  have zL : ¬ (1000 : Int) < (L.length : Int) := by omega
  go_enter Tryz.func24, Tryz.ntmps24
  go_wp2_with fail
  cases P
  · have HV : Hid (dscF ops L = (false, 0, 1)) := Lib.hid (by unfold dscF; rw [if_pos (.inl HP.out)])
    refine HPR.out.mono ?_
    rintro e w4 ⟨rfl, hw4⟩
    have H4 := Lib.hid hw4
    clear hw4 HPR
    go_wp2_with fail
    go_ret3
    rw [HV.out]
    exact ⟨rfl, H4.out⟩
  refine HPR.out.mono ?_
  rintro e w4 ⟨rfl, hw4⟩
  have H4 := Lib.hid hw4
  clear hw4 HPR
  go_wp2_with fail
  obtain ⟨wa, hwa⟩ : ∃ wa, wa = w4 := ⟨_, rfl⟩
  have HR0 : Hid (Ext wa w4) := Lib.hid (by rw [hwa]; exact Upd.refl _ _)
  rw [← hwa] at H4
  clear hwa
  go_loopg [7] L.length (fun gk iv wr => ∃ k : Nat, iv = .int .i64 (k : Int) ∧ gk = L.length - k ∧ k ≤ L.length ∧ Hid ((L.take k).all (wf nmB) = true) ∧ Hid (Ext wa wr))
  case atStart => exact ⟨0, rfl, rfl, Nat.zero_le _, Lib.hid rfl, HR0⟩
  case round =>
    clear HR0
    obtain ⟨k, rfl, rfl, hk, HM, HE⟩ := hrel
    by_cases hlt : k < L.length
    · obtain ⟨g, off, hga, _, hat⟩ := (HR.out.ext (H4.out.trans HE.out)).at_ (by omega)
      subst hga
      obtain ⟨xa, xc, q0, q1, q2, hx⟩ := hat k hlt
      rw [← Nat.add_assoc] at q1 q2
      have z0 : (0 : Int) ≤ (k : Int) := by omega
      have z1 : (k : Int) < (L.length : Int) := by omega
      have z2 : decide ((k : Int) < (L.length : Int)) = true := decide_eq_true z1
      have z2' : decide (k < L.length) = true := decide_eq_true hlt
      have hmem := tg_in hlt
      have HFX := Lib.hid (fun W (hW : Ext wr W) => rformed_x (tg L k) _ _ W ⟨xa, xc, rfl, hx.ext hW⟩)
      have HN : Hid (wf nmB (tg L k) = true → (L.take (k + 1)).all (wf nmB) = true) := Lib.hid (fun h => by
        rw [tk_snoc L k hlt, List.all_append, HM.out, List.all_cons, List.all_nil, h]; rfl)
      have HY : Hid (wf nmB (tg L k) = false → L.all (wf nmB) = false) := Lib.hid (fun h => by
        rw [Bool.eq_false_iff]
        intro h2
        rw [List.all_eq_true.1 h2 _ hmem] at h; cases h)
      obtain ⟨x, hxx⟩ : ∃ x, tg L k = x := ⟨_, rfl⟩
      rw [hxx] at q0 q1 q2 HFX HN HY
      dsimp only [tV] at HFX
      obtain ⟨b, hb⟩ : ∃ b, wf nmB x = b := ⟨_, rfl⟩
      rw [hb] at HFX HN HY
      clear hat hx hxx hb HM hmem
      go_wp2_with fail
      refine (HFX.out _ (Upd.refl _ _)).mono ?_
      rintro e w9 ⟨rfl, hw9⟩
      have H9 := Lib.hid (HE.out.trans hw9)
      have H10 := Lib.hid (H4.out.trans H9.out)
      clear hw9 q0 q1 q2 HFX
      cases b
      · have HV : Hid (dscF ops L = (false, 0, 1)) := Lib.hid (by have h1 := HY.out rfl; unfold dscF; rw [if_pos (.inr h1)])
        clear HN HY
        go_wp2_with fail
        go_ret3
        rw [HV.out]
        exact ⟨rfl, H10.out⟩
      · have HN2 := Lib.hid (HN.out rfl)
        clear HN HY H10
        go_wp2_with fail
        go_roundg (L.length - (k + 1))
        case measure => omega
        case rel => exact ⟨k + 1, by go_num, rfl, by omega, HN2, H9⟩
    · obtain rfl : k = L.length := by omega
      have z2 : decide ((L.length : Int) < (L.length : Int)) = false := decide_eq_false (by omega)
      have HM2 := HM.out
      rw [List.take_length] at HM2
      have HM20 := Lib.hid HM2
      have H20 := Lib.hid (H4.out.trans HE.out)
      clear HM2 HM HE
      go_wp2_with fail
      clear z2
      obtain ⟨wa, hwa⟩ : ∃ wa, wa = wr := ⟨_, rfl⟩
      have HR0 : Hid (Ext wa wr) := Lib.hid (by rw [hwa]; exact Upd.refl _ _)
      rw [← hwa] at H20
      clear hwa
      go_loopg [8] L.length (fun gk iv wr => ∃ k : Nat, iv = .int .i64 (k : Int) ∧ gk = L.length - k ∧ k ≤ L.length ∧ Hid ((L.take k).all (knowsP ops) = true) ∧ Hid (Ext wa wr))
      case atStart => exact ⟨0, rfl, rfl, Nat.zero_le _, Lib.hid rfl, HR0⟩
      case round =>
        clear HR0
        obtain ⟨k, rfl, rfl, hk, HM, HE⟩ := hrel
        by_cases hlt : k < L.length
        · obtain ⟨g, off, hga, _, hat⟩ := (HR.out.ext (H20.out.trans HE.out)).at_ (by omega)
          subst hga
          obtain ⟨xa, xc, q0, q1, q2, hx⟩ := hat k hlt
          rw [← Nat.add_assoc] at q1 q2
          have z0 : (0 : Int) ≤ (k : Int) := by omega
          have z1 : (k : Int) < (L.length : Int) := by omega
          have z2 : decide ((k : Int) < (L.length : Int)) = true := decide_eq_true z1
          have z2' : decide (k < L.length) = true := decide_eq_true hlt
          have hmem := tg_in hlt
          have HFX := Lib.hid (fun W (hW : Ext wr W) => rknows_x ops (tg L k) _ _ _ _ W (SlR.kept HO.out ((H20.out.trans HE.out).trans hW) (fun _ _ h => h)) ⟨xa, xc, rfl, hx.ext hW⟩ hol (HTS.out _ hmem))
          have HN : Hid (knowsP ops (tg L k) = true → (L.take (k + 1)).all (knowsP ops) = true) := Lib.hid (fun h => by
            rw [tk_snoc L k hlt, List.all_append, HM.out, List.all_cons, List.all_nil, h]; rfl)
          have HY : Hid (knowsP ops (tg L k) = false → L.all (knowsP ops) = false) := Lib.hid (fun h => by
            rw [Bool.eq_false_iff]
            intro h2
            rw [List.all_eq_true.1 h2 _ hmem] at h; cases h)
          obtain ⟨x, hxx⟩ : ∃ x, tg L k = x := ⟨_, rfl⟩
          rw [hxx] at q0 q1 q2 HFX HN HY
          dsimp only [tV] at HFX
          obtain ⟨b, hb⟩ : ∃ b, knowsP ops x = b := ⟨_, rfl⟩
          rw [hb] at HFX HN HY
          clear hat hx hxx hb HM hmem
          go_wp2_with fail
          refine (HFX.out _ (Upd.refl _ _)).mono ?_
          rintro e w9 ⟨rfl, hw9⟩
          have H9 := Lib.hid (HE.out.trans hw9)
          have H10 := Lib.hid (H20.out.trans H9.out)
          clear hw9 q0 q1 q2 HFX
          cases b
          · have HV : Hid (dscF ops L = (false, 0, 9)) := Lib.hid (by have h1 := HY.out rfl; unfold dscF; rw [if_neg (by rw [HP.out, HM20.out]; simp), if_pos h1])
            clear HN HY
            go_wp2_with fail
            go_ret3
            rw [HV.out]
            exact ⟨rfl, H10.out⟩
          · have HN2 := Lib.hid (HN.out rfl)
            clear HN HY H10
            go_wp2_with fail
            go_roundg (L.length - (k + 1))
            case measure => omega
            case rel => exact ⟨k + 1, by go_num, rfl, by omega, HN2, H9⟩
        · obtain rfl : k = L.length := by omega
          have z2 : decide ((L.length : Int) < (L.length : Int)) = false := decide_eq_false (by omega)
          have HM2 := HM.out
          rw [List.take_length] at HM2
          have HM30 := Lib.hid HM2
          have H30 := Lib.hid (H20.out.trans HE.out)
          clear HM2 HM HE
          go_wp2_with fail
          clear z2
          obtain ⟨wa, hwa⟩ : ∃ wa, wa = wr := ⟨_, rfl⟩
          have HR0 : Hid (Ext wa wr) := Lib.hid (by rw [hwa]; exact Upd.refl _ _)
          rw [← hwa] at H30
          clear hwa
          have HN1 : Hid (¬ (precP nmB ops = false ∨ L.all (wf nmB) = false)) := Lib.hid (by rw [HP.out, HM20.out]; simp)
          have HN2 : Hid (¬ L.all (knowsP ops) = false) := Lib.hid (by rw [HM30.out]; simp)
          have HWF := Lib.hid (List.all_eq_true.1 HM20.out)
          have HKN := Lib.hid (List.all_eq_true.1 HM30.out)
          go_loopg [9] (L.length + 1) (fun gk iv wr => ∃ k : Nat, iv = .int .i64 (k : Int) ∧ gk = L.length + 1 - k ∧ k ≤ L.length ∧ Hid (∀ j, j < k → gt (ixF ops) (tg L j) (tg L (j + 1)) = true) ∧ Hid (Ext wa wr))
          case atStart => exact ⟨0, rfl, rfl, Nat.zero_le _, Lib.hid (fun j h => absurd h (Nat.not_lt_zero _)), HR0⟩
          case round =>
            clear HR0
            obtain ⟨k, rfl, rfl, hk, HM, HE⟩ := hrel
            have yw : IntKind.i64.wrap ((k : Int) + 1) = ((k + 1 : Nat) : Int) := by rw [IntWalk.i64_in _ (by omega)]; omega
            by_cases hlt : k + 1 < L.length
            · obtain ⟨g, off, hga, _, hat⟩ := (HR.out.ext (H30.out.trans HE.out)).at_ (by omega)
              subst hga
              obtain ⟨m, hm⟩ : ∃ m, k + 1 = m := ⟨_, rfl⟩
              rw [hm] at yw
              obtain ⟨xa, xc, q0, q1, q2, hx⟩ := hat k (by omega)
              obtain ⟨ya, yc, r0, r1, r2, hy⟩ := hat m (by omega)
              rw [← Nat.add_assoc] at q1 q2 r1 r2
              have hlt2 : m < L.length := by omega
              have z0 : (0 : Int) ≤ (m : Int) := by omega
              have z1 : (m : Int) < (L.length : Int) := by omega
              have z2 : decide ((m : Int) < (L.length : Int)) = true := decide_eq_true z1
              have z2' : decide (m < L.length) = true := decide_eq_true hlt2
              have y0 : (0 : Int) ≤ (k : Int) := by omega
              have y1 : (k : Int) < (L.length : Int) := by omega
              have hm1 := tg_in (L := L) (k := k) (by omega)
              have hm2 := tg_in hlt2
              have HAB := Lib.hid (fun W (hW : Ext wr W) => rabove_x ops (tg L k) (tg L m) _ _ _ _ W (SlR.kept HO.out ((H30.out.trans HE.out).trans hW) (fun _ _ h => h)) ⟨xa, xc, rfl, hx.ext hW⟩ ⟨ya, yc, rfl, hy.ext hW⟩ (fun j hj => Nat.lt_of_lt_of_le hj ((H30.out.trans HE.out).trans hW).size) (wf_size (HWF.out _ hm1)) (wf_size (HWF.out _ hm2)) (wf_nop (HWF.out _ hm1)) (wf_nop (HWF.out _ hm2)) (knowsP_iff.1 (HKN.out _ hm1)) (knowsP_iff.1 (HKN.out _ hm2)) hol)
              have HN : Hid (gt (ixF ops) (tg L k) (tg L m) = true → ∀ j, j < m → gt (ixF ops) (tg L j) (tg L (j + 1)) = true) := Lib.hid (fun h j hj => by
                by_cases e : j = k
                · rw [e, hm]; exact h
                · exact HM.out j (by omega))
              have HY : Hid (gt (ixF ops) (tg L k) (tg L m) = false → dscF ops L = (false, (k : Int), 0)) := Lib.hid (fun h => by
                have hd : dixF ops L = k := dix_hit (fun j hj => HM.out j hj) (by omega) (by rw [hm]; exact h)
                unfold dscF
                rw [if_neg HN1.out, if_neg HN2.out, hd, if_pos (by omega)])
              obtain ⟨x, hxx⟩ : ∃ x, tg L k = x := ⟨_, rfl⟩
              obtain ⟨y, hyy⟩ : ∃ y, tg L m = y := ⟨_, rfl⟩
              rw [hxx] at q0 q1 q2 HAB HN HY
              rw [hyy] at r0 r1 r2 HAB HN HY
              dsimp only [tV] at HAB
              obtain ⟨b, hb⟩ : ∃ b, gt (ixF ops) x y = b := ⟨_, rfl⟩
              rw [hb] at HAB HN HY
              have hrfs := Upd.refl (fun _ => False) wr
              have xq0 := fun x : XW wr => x.ext.cell q0 (fun h => h)
              have xq1 := fun x : XW wr => x.ext.cell q1 (fun h => h)
              have xq2 := fun x : XW wr => x.ext.cell q2 (fun h => h)
              have xr0 := fun x : XW wr => x.ext.cell r0 (fun h => h)
              have xr1 := fun x : XW wr => x.ext.cell r1 (fun h => h)
              have xr2 := fun x : XW wr => x.ext.cell r2 (fun h => h)
              clear q0 q1 q2 r0 r1 r2 hat hm1 hm2 hx hy hxx hyy hb HM
              go_wp2_with fail
              refine wp_region_ext wr (by assumption) (by kernel_rfl) (by kernel_rfl) ?_
              repeat (first | go_big_quiet_skip | (go_big_quiet_want; go_big_quiet_op; first | go_big_quiet_on | (apply Exists.intro; refine ⟨fun x => ?_, ?_⟩; (go_at_call 44; exact XW.call (HAB.out x.val x.ext)); go_big_quiet_on)))
              refine wpQuiet_nil ?_
              rintro w8 ⟨⟨_, hyw8⟩, rfl⟩
              try dsimp only
              have H8 := Lib.hid (HE.out.trans hyw8)
              have H9 := Lib.hid (H30.out.trans H8.out)
              clear HAB xq0 xq1 xq2 xr0 xr1 xr2
              cases b
              · have HV := Lib.hid (HY.out rfl)
                clear HN HY
                go_wp2_with fail
                go_ret3
                rw [HV.out]
                exact ⟨rfl, H9.out⟩
              · have HN2 := Lib.hid (HN.out rfl)
                clear HN HY H9
                go_wp2_with fail
                go_roundg (L.length + 1 - m)
                case measure => omega
                case rel => exact ⟨m, by go_num, by omega, by omega, HN2, H8⟩
            · have z1 : ¬ ((k + 1 : Nat) : Int) < (L.length : Int) := by omega
              have z2 : decide (((k + 1 : Nat) : Int) < (L.length : Int)) = false := decide_eq_false z1
              have z1' : ¬ (k : Int) + 1 < (L.length : Int) := by omega
              have z2' : decide ((k : Int) + 1 < (L.length : Int)) = false := decide_eq_false z1'
              have z2'' : decide (k + 1 < L.length) = false := decide_eq_false hlt
              have HV : Hid (dscF ops L = (true, -1, 0)) := Lib.hid (by
                unfold dscF
                rw [if_neg HN1.out, if_neg HN2.out, if_neg (dix_none (fun j hj => HM.out j (by omega)))])
              have H9 := Lib.hid (H30.out.trans HE.out)
              go_wp2_with fail
              go_ret3
              rw [HV.out]
              exact ⟨rfl, H9.out⟩

end Go.Proofs.YtiimccogojkldaaGreatDoor
