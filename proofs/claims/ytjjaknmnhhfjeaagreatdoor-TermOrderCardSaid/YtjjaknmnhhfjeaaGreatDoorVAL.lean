/- The texts Y20 Y24 Y25 Y26, one behind the other. -/
import Derived.Test.YtjjaknmnhhfjeaaGreatDoorVAK
import Derived.Test.YtjjaknmnhhfjeaaGreatDoorVAD
import Derived.Test.YtjjaknmnhhfjeaaGreatDoorVAJ
/- What is put is there: pure. -/
namespace Go.Proofs.YtjjaknmnhhfjeaaGreatDoor
open Go.RowKit Go.Hw Go Go.Sort Go.Proofs Go.ChangeMaps
set_option linter.unusedVariables false
set_option linter.unusedSimpArgs false

open Tm
end Go.Proofs.YtjjaknmnhhfjeaaGreatDoor

/- Comparing lists. -/
namespace Go.Proofs.YtjjaknmnhhfjeaaGreatDoor
open Go.RowKit Go.Hw Go Go.Sort Go.Proofs Go.ChangeMaps
set_option linter.unusedVariables false
set_option linter.unusedSimpArgs false

open Tm
theorem cb_eq : ∀ l m : List UInt8, Lib.compareBytes l m = if l < m then -1 else if m < l then 1 else 0
  | [], [] => by simp [Lib.compareBytes]
  | [], b :: m => by rw [if_pos (List.nil_lt_cons b m)]; rfl
  | a :: l, [] => by rw [if_neg (List.not_lt_nil _), if_pos (List.nil_lt_cons a l)]; rfl
  | a :: l, b :: m => by
    have ih := cb_eq l m
    rw [Lib.compareBytes, ih]
    simp only [List.cons_lt_cons_iff]
    by_cases h1 : a < b
    · rw [if_pos h1, if_pos (.inl h1)]
    by_cases h2 : b < a
    · rw [if_neg h1, if_pos h2, if_neg (by rintro (h | ⟨h, _⟩); exact h1 h; exact absurd h2 (by rw [h]; exact UInt8.lt_irrefl b)), if_pos (.inl h2)]
    have h3 : a = b := UInt8.le_antisymm (UInt8.not_lt.1 h2) (UInt8.not_lt.1 h1)
    subst h3
    rw [if_neg h1, if_neg h2]
    simp only [h1, false_or, true_and]
theorem cb_bcmp (a b : By) : Lib.compareBytes a.data.toList b.data.toList = bcmp a b := by
  rw [cb_eq]; unfold bcmp blt
  simp only [decide_eq_true_eq]
theorem nan_x (n : Int) (w : World) : Calls Tryz.prog 136 #[.int .i64 n] w fun e w' => e = .returned (.bool false) ∧ Ext w w' := by
  go_enter Tryz.func136, Tryz.ntmps136
  go_wp2_with fail
  go_ret
  exact ⟨by simp, Upd.refl _ _⟩
set_option maxRecDepth 100000 in
set_option maxHeartbeats 2000000 in
theorem cmpI_x (a b : Nat) (w : World) : Calls Tryz.prog 117 #[.int .i64 (a : Int), .int .i64 (b : Int)] w fun e w' => e = .returned (.int .i64 (lc a b)) ∧ Ext w w' := by
  go_enter Tryz.func117, Tryz.ntmps117
  go_wp2_with fail
  refine (nan_x a w).mono ?_
  rintro e w2 ⟨rfl, h2⟩
  have H2 := Lib.hid h2
  clear h2
  go_wp2_with fail
  refine (nan_x b w2).mono ?_
  rintro e w3 ⟨rfl, h3⟩
  have H3 := Lib.hid (H2.out.trans h3)
  clear h3 H2
  by_cases h : a < b
  · have z1 : (a : Int) < (b : Int) := by omega
    have z2 : decide ((a : Int) < (b : Int)) = true := decide_eq_true z1
    have HV : Hid (lc a b = -1) := Lib.hid (by unfold lc; rw [if_neg (by omega), if_pos h])
    go_wp2_with fail
    go_ret
    rw [HV.out]
    exact ⟨rfl, H3.out⟩
  have z1 : ¬ (a : Int) < (b : Int) := by omega
  have z2 : decide ((a : Int) < (b : Int)) = false := decide_eq_false z1
  by_cases h' : b < a
  · have z3 : (b : Int) < (a : Int) := by omega
    have z4 : decide ((b : Int) < (a : Int)) = true := decide_eq_true z3
    have HV : Hid (lc a b = 1) := Lib.hid (by unfold lc; rw [if_neg (by omega), if_neg h])
    go_wp2_with fail
    go_ret
    rw [HV.out]
    exact ⟨rfl, H3.out⟩
  have z3 : ¬ (b : Int) < (a : Int) := by omega
  have z4 : decide ((b : Int) < (a : Int)) = false := decide_eq_false z3
  have HV : Hid (lc a b = 0) := Lib.hid (by unfold lc; rw [if_pos (by omega)])
  go_wp2_with fail
  go_ret
  rw [HV.out]
  exact ⟨rfl, H3.out⟩
def orL : List Int → Int
  | [] => 0
  | x :: l => orI x (orL l)
set_option maxRecDepth 100000 in
set_option maxHeartbeats 2000000 in
theorem or_x (l : List Int) (a : Option Addr) (c : Nat) (S : Nat → Prop) (w : World) (hP : SlR S w 1 (.slice a l.length c) l.length (l.map (Value.int .i64))) (hl : l.length ≤ 1000000) :
    Calls Tryz.prog 116 #[.slice a l.length c] w fun e w' => e = .returned (.int .i64 (orL l)) ∧ Ext w w' := by
  have HP := Lib.hid hP
  clear hP
  go_enter Tryz.func116, Tryz.ntmps116
  go_wp2_with fail
  go_loopg [8] l.length (fun gk iv wr => ∃ k : Nat, iv = .int .i64 (k : Int) ∧ gk = l.length - k ∧ k ≤ l.length ∧ Hid (Ext w wr) ∧ Hid (orL l = orL (l.drop k)))
  case atStart => exact ⟨0, rfl, rfl, Nat.zero_le _, Lib.hid (Upd.refl _ _), Lib.hid rfl⟩
  case round =>
    obtain ⟨k, rfl, rfl, hk, HE, HM⟩ := hrel
    by_cases hlt : k < l.length
    · obtain ⟨g, off, hga, _, hat⟩ := SlR.one_at (d := (0 : Int)) (SlR.kept HP.out HE.out (fun _ _ h => h)) (by omega)
      subst hga
      have q0 := hat k hlt
      have z0 : (0 : Int) ≤ (k : Int) := by omega
      have z1 : (k : Int) < (l.length : Int) := by omega
      have z2 : decide ((k : Int) < (l.length : Int)) = true := decide_eq_true z1
      have z2' : decide (k < l.length) = true := decide_eq_true hlt
      have hd : l.drop k = l.getD k 0 :: l.drop (k + 1) := by
        rw [List.drop_eq_getElem_cons hlt, List.getD_eq_getElem?_getD, List.getElem?_eq_getElem hlt]; rfl
      have hm := HM.out
      rw [hd] at hm
      obtain ⟨x, hx⟩ : ∃ x, l.getD k 0 = x := ⟨_, rfl⟩
      rw [hx] at q0 hm
      have HM2 := Lib.hid hm
      clear hat hd hm hx HM
      by_cases h0 : x = 0
      · have HM3 : Hid (orL l = orL (l.drop (k + 1))) := Lib.hid (by rw [HM2.out, h0]; rfl)
        subst h0
        clear HM2
        go_wp2_with fail
        go_roundg (l.length - (k + 1))
        case measure => omega
        case rel => exact ⟨k + 1, by go_num, rfl, by omega, HE, HM3⟩
      · have HV : Hid (orL l = x) := Lib.hid (by rw [HM2.out]; show orI x _ = x; unfold orI; rw [if_pos h0])
        clear HM2
        go_wp2_with fail
        go_ret
        rw [HV.out]
        exact ⟨rfl, HE.out⟩
    · obtain rfl : k = l.length := by omega
      have z2 : decide ((l.length : Int) < (l.length : Int)) = false := decide_eq_false (by omega)
      have HV : Hid (orL l = 0) := Lib.hid (by rw [HM.out, List.drop_length]; rfl)
      go_wp2_with fail
      go_ret
      rw [HV.out]
      exact ⟨rfl, HE.out⟩
def cfF : List Tm → List Tm → Int
  | [], [] => 0
  | [], _ :: _ => -1
  | _ :: _, [] => 1
  | x :: L, y :: M => orI (cmpT x y) (cfF L M)
theorem cf_cmps : ∀ L M : List Tm, L.length = M.length → cfF L M = cmps L M
  | [], [], _ => by unfold cfF; rw [cmps]; simp
  | [], _ :: _, h => by simp at h
  | _ :: _, [], h => by simp at h
  | x :: L, y :: M, h => by rw [cmps_or, cfF, cf_cmps L M (by simpa using h)]
theorem or_lc (L M : List Tm) : orI (lc L.length M.length) (cfF L M) = orI (lc L.length M.length) (cmps L M) := by
  unfold orI
  by_cases h : L.length = M.length
  · rw [cf_cmps L M h]
  · have : lc L.length M.length ≠ 0 := by unfold lc; rw [if_neg h]; split <;> decide
    rw [if_pos this, if_pos this]
set_option maxRecDepth 100000 in
set_option maxHeartbeats 2000000 in
theorem cf_x (L M : List Tm) (a b : Option Addr) (c d : Nat) (S T : Nat → Prop) (w : World) (hL : TlR S w L (.slice a L.length c)) (hM : TlR T w M (.slice b M.length d)) (hl : L.length ≤ 1000000)
    (hf : ∀ x ∈ L, ∀ y xv yv W, Ext w W → TmR S W x xv → TmR T W y yv → Calls Tryz.prog 83 #[xv, yv] W fun e W' => e = .returned (.int .i64 (cmpT x y)) ∧ Ext W W') :
    Calls Tryz.prog 118 #[.slice a L.length c, .slice b M.length d, .func (.func 83) #[] #[]] w fun e w' => e = .returned (.int .i64 (cfF L M)) ∧ Ext w w' := by
  have HL := Lib.hid hL
  have HM := Lib.hid hM
  have HF := Lib.hid hf
  obtain ⟨V, hV⟩ : ∃ V, cfF L M = V := ⟨_, rfl⟩
  have HV := Lib.hid hV
  rw [hV]
  clear hL hM hf hV
  go_enter Tryz.func118, Tryz.ntmps118
  go_wp2_with fail
  go_loopg [13] L.length (fun gk iv wr => ∃ k : Nat, iv = .int .i64 (k : Int) ∧ gk = L.length - k ∧ k ≤ L.length ∧ Hid (k ≤ M.length) ∧ Hid (Ext w wr) ∧ Hid (V = cfF (L.drop k) (M.drop k)))
  case atStart => exact ⟨0, rfl, rfl, Nat.zero_le _, Lib.hid (Nat.zero_le _), Lib.hid (Upd.refl _ _), Lib.hid HV.out.symm⟩
  case round =>
    obtain ⟨k, rfl, rfl, hk, HKM, HE, HR⟩ := hrel
    have hkm := HKM.out
    by_cases hlt : k < L.length
    · obtain ⟨g, off, hga, _, hat⟩ := TlR.at_ (HL.out.ext HE.out) (by omega)
      subst hga
      obtain ⟨xa, xc, q0, q1, q2, hx⟩ := hat k hlt
      rw [← Nat.add_assoc] at q1 q2
      have z0 : (0 : Int) ≤ (k : Int) := by omega
      have z1 : (k : Int) < (L.length : Int) := by omega
      have z2 : decide ((k : Int) < (L.length : Int)) = true := decide_eq_true z1
      have z2' : decide (k < L.length) = true := decide_eq_true hlt
      have hv := HR.out
      rw [tg_drop L k hlt] at hv
      have HMX := Lib.hid (tg_memX hlt)
      obtain ⟨x, hxe⟩ : ∃ x, tg L k = x := ⟨_, rfl⟩
      rw [hxe] at q0 q1 q2 hx hv HMX
      have HXK := Lib.hid hx
      have HV1 := Lib.hid hv
      have HE1 := Lib.hid (HE.out.alloc (.cells #[.string x.name, .string x.sort, .slice xa x.kids.length xc] 24))
      have HBX := Lib.hid (alloc0 wr (.cells #[.string x.name, .string x.sort, .slice xa x.kids.length xc] 24))
      clear hat hx hv hxe HR
      by_cases hm : M.length ≤ k
      · have z3 : (M.length : Int) ≤ (k : Int) := by omega
        have z4 : decide ((M.length : Int) ≤ (k : Int)) = true := decide_eq_true z3
        have HV2 : Hid (V = 1) := Lib.hid (by rw [HV1.out, List.drop_of_length_le hm]; rfl)
        clear HV1
        go_wp2_with fail
        go_ret
        rw [HV2.out]
        exact ⟨rfl, HE1.out⟩
      have z3 : ¬ (M.length : Int) ≤ (k : Int) := by omega
      have z4 : decide ((M.length : Int) ≤ (k : Int)) = false := decide_eq_false z3
      have z5 : (k : Int) < (M.length : Int) := by omega
      have z6 : decide ((k : Int) < (M.length : Int)) = true := decide_eq_true z5
      have z7 : decide (k < M.length) = true := decide_eq_true (by omega)
      obtain ⟨g2, off2, hgb, _, hat⟩ := TlR.at_ (HM.out.ext HE1.out) (by omega)
      subst hgb
      obtain ⟨ya, yc, r0, r1, r2, hy⟩ := hat k (by omega)
      rw [← Nat.add_assoc] at r1 r2
      have hv := HV1.out
      rw [tg_drop M k (by omega)] at hv
      obtain ⟨y, hye⟩ : ∃ y, tg M k = y := ⟨_, rfl⟩
      rw [hye] at r0 r1 r2 hy hv
      have HYK := Lib.hid (hy.ext ((Upd.refl (fun _ => False) (wr.alloc (.cells #[.string x.name, .string x.sort, .slice xa x.kids.length xc] 24))).alloc (.cells #[.string y.name, .string y.sort, .slice ya y.kids.length yc] 24)))
      have HV2 : Hid (V = orI (cmpT x y) (cfF (L.drop (k + 1)) (M.drop (k + 1)))) := Lib.hid (by rw [hv, cfF])
      have HXK2 := Lib.hid (HXK.out.ext (((Upd.refl (fun _ => False) wr).alloc (.cells #[.string x.name, .string x.sort, .slice xa x.kids.length xc] 24)).alloc (.cells #[.string y.name, .string y.sort, .slice ya y.kids.length yc] 24)))
      have HE2 := Lib.hid (HE1.out.alloc (.cells #[.string y.name, .string y.sort, .slice ya y.kids.length yc] 24))
      have hb2 := allocOld HBX.out (.cells #[.string y.name, .string y.sort, .slice ya y.kids.length yc] 24)
      have hb3 := alloc_at (wr.alloc (.cells #[.string x.name, .string x.sort, .slice xa x.kids.length xc] 24)) (.cells #[.string y.name, .string y.sort, .slice ya y.kids.length yc] 24) (n := wr.heap.size + 1) (by simp)
      have s0 := cellRow hb2 0 (.string x.name) rfl
      have s1 := cellRow hb2 1 (.string x.sort) rfl
      have s2 := cellRow hb2 2 (.slice xa x.kids.length xc) rfl
      have t0 := cellRow hb3 0 (.string y.name) rfl
      have t1 := cellRow hb3 1 (.string y.sort) rfl
      have t2 := cellRow hb3 2 (.slice ya y.kids.length yc) rfl
      have HFC := Lib.hid (HF.out x HMX.out y (.agg #[.string x.name, .string x.sort, .slice xa x.kids.length xc]) (.agg #[.string y.name, .string y.sort, .slice ya y.kids.length yc]) ((wr.alloc (.cells #[.string x.name, .string x.sort, .slice xa x.kids.length xc] 24)).alloc (.cells #[.string y.name, .string y.sort, .slice ya y.kids.length yc] 24)) HE2.out (TmR.of HXK2.out) (TmR.of HYK.out))
      obtain ⟨C, hC⟩ : ∃ C, cmpT x y = C := ⟨_, rfl⟩
      rw [hC] at HFC HV2
      clear hat hy hv hye HV1 HXK HXK2 HYK hC hb2 hb3 HE1 HBX HE
      go_wp2_with fail
      refine HFC.out.mono ?_
      rintro e w4 ⟨rfl, h4⟩
      have HE4 := Lib.hid (HE2.out.trans h4)
      clear h4 HFC s0 s1 s2 t0 t1 t2 q0 q1 q2 r0 r1 r2 HE2
      by_cases hc : C = 0
      · have HV3 : Hid (V = cfF (L.drop (k + 1)) (M.drop (k + 1))) := Lib.hid (by rw [HV2.out, hc]; rfl)
        subst hc
        clear HV2
        go_wp2_with fail
        go_roundg (L.length - (k + 1))
        case measure => omega
        case rel => exact ⟨k + 1, by go_num, rfl, by omega, Lib.hid (by omega), HE4, HV3⟩
      · have HV3 : Hid (V = C) := Lib.hid (by rw [HV2.out]; unfold orI; rw [if_pos hc])
        clear HV2
        go_wp2_with fail
        go_ret
        rw [HV3.out]
        exact ⟨rfl, HE4.out⟩
    · obtain rfl : k = L.length := by omega
      have z2 : decide ((L.length : Int) < (L.length : Int)) = false := decide_eq_false (by omega)
      have hv := HR.out
      rw [List.drop_length] at hv
      by_cases h : L.length < M.length
      · have z3 : (L.length : Int) < (M.length : Int) := by omega
        have z4 : decide ((L.length : Int) < (M.length : Int)) = true := decide_eq_true z3
        have HV2 : Hid (V = -1) := Lib.hid (by rw [hv, tg_drop M L.length h]; rfl)
        clear hv
        go_wp2_with fail
        go_ret
        rw [HV2.out]
        exact ⟨rfl, HE.out⟩
      · have z3 : ¬ (L.length : Int) < (M.length : Int) := by omega
        have z4 : decide ((L.length : Int) < (M.length : Int)) = false := decide_eq_false z3
        have HV2 : Hid (V = 0) := Lib.hid (by rw [hv, List.drop_of_length_le (by omega)]; rfl)
        clear hv
        go_wp2_with fail
        go_ret
        rw [HV2.out]
        exact ⟨rfl, HE.out⟩

end Go.Proofs.YtjjaknmnhhfjeaaGreatDoor

/- compare of the program. -/
namespace Go.Proofs.YtjjaknmnhhfjeaaGreatDoor
open Go.RowKit Go.Hw Go Go.Sort Go.Proofs Go.ChangeMaps
set_option linter.unusedVariables false
set_option linter.unusedSimpArgs false

open Tm
theorem ne_emp {s : By} (h : ¬ s.size = 0) : (ByteArray.toList s).isEmpty = false := by
  rw [Lib.toList_data]
  cases e : s.data.toList.isEmpty with
  | false => rfl
  | true => exact absurd (by have h2 := List.isEmpty_iff.1 e; show s.data.size = 0; rw [← Array.length_toList, h2]; rfl) h
theorem or_0 (a : Int) : orI a 0 = a := by unfold orI; split <;> omega
theorem or0_ (a : Int) : orI 0 a = a := by unfold orI; rw [if_neg (by simp)]
def ann4 (l : List Int) : Ann Value := ⟨fun x => .slice (some ⟨vn x, 0, none⟩) 4 4, fun x W => SlR (fun _ => True) W 1 (.slice (some ⟨vn x, 0, none⟩) 4 4) l.length (l.map (Value.int .i64)), fun x W W' h hE => SlR.kept h hE (fun _ _ h => h)⟩
set_option maxRecDepth 100000 in
set_option maxHeartbeats 2000000 in
theorem pcompare_x : ∀ (t u : Tm) (v v' : Value) (S T : Nat → Prop) (w : World), TmR S w t v → TmR T w u v' → t.size ≤ 1000000 →
    Calls Tryz.prog 83 #[v, v'] w fun e w' => e = .returned (.int .i64 (cmpT t u)) ∧ Ext w w' := by
  refine Tm.ind (fun n s L ih => ?_)
  intro u v v' S T w hR hR' hsz
  obtain ⟨m, r, M⟩ := u
  obtain ⟨aa, ca, rfl, hT⟩ := hR
  obtain ⟨ab, cb, rfl, hT'⟩ := hR'
  dsimp only [tV, Tm.name, Tm.sort, Tm.kids] at hT hT' ⊢
  have hszs : sizes L ≤ 1000000 := by rw [size_eq] at hsz; simp only [Tm.kids] at hsz; omega
  have hll : L.length ≤ 1000000 := Nat.le_trans (length_le_sizes L) hszs
  have HCF := Lib.hid (fun W (hW : Ext w W) => cf_x L M aa ab ca cb S T W (hT.ext hW) (hT'.ext hW) hll (fun x hx y xv yv W' hW' h1 h2 => ih x hx y xv yv S T W' h1 h2 (by have := size_kid (t := .mk n s L) hx; omega)))
  have HE := Lib.hid (((Upd.refl (fun _ => False) w).alloc (.cells #[.string n, .string s, .slice aa L.length ca] 24)).alloc (.cells #[.string m, .string r, .slice ab M.length cb] 24))
  have HA := Lib.hid (allocOld (alloc0 w (.cells #[.string n, .string s, .slice aa L.length ca] 24)) (.cells #[.string m, .string r, .slice ab M.length cb] 24))
  have HB := Lib.hid (alloc_at (w.alloc (.cells #[.string n, .string s, .slice aa L.length ca] 24)) (.cells #[.string m, .string r, .slice ab M.length cb] 24) (n := w.heap.size + 1) (by simp))
  clear ih hT hT' hszs
  by_cases hs : s.size = 0
  · have hse := empty_is _ hs
    subst hse
    by_cases hr : r.size = 0
    · have hre := empty_is _ hr
      subst hre
      have HBB : Hid (bb (decide ((⟨#[]⟩ : By) ≠ nul)) (decide ((⟨#[]⟩ : By) ≠ nul)) = 0) := Lib.hid rfl
      have a0 := cellRow HA.out 0 (.string n) rfl
      have a1 := cellRow HA.out 1 (.string ⟨#[]⟩) rfl
      have a2 := cellRow HA.out 2 (.slice aa L.length ca) rfl
      have b0 := cellRow HB.out 0 (.string m) rfl
      have b1 := cellRow HB.out 1 (.string ⟨#[]⟩) rfl
      have b2 := cellRow HB.out 2 (.slice ab M.length cb) rfl
      go_enter Tryz.func83, Tryz.ntmps83
      go_wp2_with fail
      go_quiet (fail)
      generalize ((w.alloc (.cells #[.string n, .string ⟨#[]⟩, .slice aa L.length ca] 24)).alloc (.cells #[.string m, .string ⟨#[]⟩, .slice ab M.length cb] 24)) = w1 at *
      have hD := (Upd.refl (fun _ => False) w1).drewN' nq
      have HE2 := Lib.hid (HE.out.trans hD)
      have HA2 := Lib.hid (hD.heap HA.out (fun h => h))
      have HB2 := Lib.hid (hD.heap HB.out (fun h => h))
      clear hD a0 a1 a2 b0 b1 b2 HA HB HE
      generalize w1.drewN nq = wd at *
      have HE := HE2
      have HA := HA2
      have HB := HB2
      clear HE2 HA2 HB2
      go_upto_region 6 with fail
      have Q0 := fun x : XW wd => cellRow (x.ext.heap HA.out (fun h => h)) 0 (.string n) rfl
      have Q1 := fun x : XW wd => cellRow (x.ext.heap HA.out (fun h => h)) 1 (.string ⟨#[]⟩) rfl
      have Q2 := fun x : XW wd => cellRow (x.ext.heap HA.out (fun h => h)) 2 (.slice aa L.length ca) rfl
      have R0 := fun x : XW wd => cellRow (x.ext.heap HB.out (fun h => h)) 0 (.string m) rfl
      have R1 := fun x : XW wd => cellRow (x.ext.heap HB.out (fun h => h)) 1 (.string ⟨#[]⟩) rfl
      have R2 := fun x : XW wd => cellRow (x.ext.heap HB.out (fun h => h)) 2 (.slice ab M.length cb) rfl
      refine wp_region_par (α := Value) 25 [] [[], [0], [], [2], [0, 1, 2, 3], [], [5], [], [7], [0, 1, 2, 3, 4, 5, 6, 7, 8], [], [10], [10, 11], [], [13], [13, 14], [0, 1, 2, 3, 4, 5, 6, 7, 8, 9, 10, 11, 12, 13, 14, 15], [], [17], [], [19], [0, 1, 2, 3, 4, 5, 6, 7, 8, 9, 10, 11, 12, 13, 14, 15, 16, 17, 18, 19, 20], [0, 1, 2, 3, 4, 5, 6, 7, 8, 9, 10, 11, 12, 13, 14, 15, 16, 17, 18, 19, 20, 21], [0, 1, 2, 3, 4, 5, 6, 7, 8, 9, 10, 11, 12, 13, 14, 15, 16, 17, 18, 19, 20, 21, 22], [0, 1, 2, 3, 4, 5, 6, 7, 8, 9, 10, 11, 12, 13, 14, 15, 16, 17, 18, 19, 20, 21, 22, 23]]
        [none, none, none, none, some (annVal (.int .i64 (bcmp n m))), none, none, none, none, some (annVal (.int .i64 (bcmp (⟨#[]⟩) (⟨#[]⟩)))), none, none, none, none, none, none, some (annVal (.int .i64 (lc L.length M.length))), none, none, none, none, some (annVal (.int .i64 (cfF L M))), some (ann4 [bcmp n m, bcmp (⟨#[]⟩) (⟨#[]⟩), lc L.length M.length, cfF L M]), some (annVal (.int .i64 (orL [bcmp n m, bcmp (⟨#[]⟩) (⟨#[]⟩), lc L.length M.length, cfF L M]))), none]
        [false, false, false, false, true, false, false, false, false, true, false, false, false, false, false, false, true, false, false, false, false, true, true, true, false] (by kernel_rfl) (by kernel_rfl) rfl (fun _ _ d _ _ h => by cases d <;> exact h) ?_
      simp only [List.take_succ_cons, List.take_zero, pickO]
      iterate 4 (refine can_pure0 rfl (fun K hK => ?_); go_simp; refine hK _ ?_; clear hK K)
      refine can_mem _ rfl (by go_simp) (fun W hW hG K hK => ?_) (fun K v1 hK => ?_)
      · go_simp
        refine (Tryz.strings_Compare (n) (m) W).mono ?_
        rintro e w' ⟨rfl, rfl⟩
        rw [cb_bcmp]
        exact hK default w' (Upd.refl _ _) trivial
      refine hK _ ?_; clear hK K
      dsimp only [annVal]
      iterate 4 (refine can_pure0 rfl (fun K hK => ?_); go_simp; refine hK _ ?_; clear hK K)
      refine can_mem _ rfl (by go_simp) (fun W hW hG K hK => ?_) (fun K v1 hK => ?_)
      · go_simp
        refine (Tryz.strings_Compare (⟨#[]⟩) (⟨#[]⟩) W).mono ?_
        rintro e w' ⟨rfl, rfl⟩
        rw [cb_bcmp]
        exact hK default w' (Upd.refl _ _) trivial
      refine hK _ ?_; clear hK K
      dsimp only [annVal]
      iterate 6 (refine can_pure0 rfl (fun K hK => ?_); go_simp; refine hK _ ?_; clear hK K)
      refine can_mem _ rfl (by go_simp) (fun W hW hG K hK => ?_) (fun K v1 hK => ?_)
      · have hE := HE.out.trans hW
        go_simp
        refine (cmpI_x L.length M.length W).mono ?_
        rintro e w' ⟨rfl, h⟩
        exact hK default w' h trivial
      refine hK _ ?_; clear hK K
      dsimp only [annVal]
      iterate 4 (refine can_pure0 rfl (fun K hK => ?_); go_simp; refine hK _ ?_; clear hK K)
      refine can_mem _ rfl (by go_simp) (fun W hW hG K hK => ?_) (fun K v1 hK => ?_)
      · have hE := HE.out.trans hW
        go_simp
        refine (HCF.out W hE).mono ?_
        rintro e w' ⟨rfl, h⟩
        exact hK default w' h trivial
      refine hK _ ?_; clear hK K
      dsimp only [annVal]
      refine can_mem _ rfl (by go_simp) (fun W hW hG K hK => ?_) (fun K v1 hK => ?_)
      · go_simp
        refine hK (.slice (some ⟨W.heap.size, 0, none⟩) 4 4) _ ((Upd.refl _ W).alloc _) ?_
        show SlR (fun _ => True) _ 1 (.slice (some ⟨W.heap.size, 0, none⟩) 4 4) 4 ([bcmp n m, bcmp (⟨#[]⟩) (⟨#[]⟩), lc L.length M.length, cfF L M].map (Value.int .i64))
        refine SlR.mk' rfl rfl (by decide) (fun _ => trivial) (fun j hj => ?_)
        have hj4 : j < 4 := hj
        rcases j with _ | _ | _ | _ | j
        · exact cellRow (alloc0 _ _) 0 _ rfl
        · exact cellRow (alloc0 _ _) 1 _ rfl
        · exact cellRow (alloc0 _ _) 2 _ rfl
        · exact cellRow (alloc0 _ _) 3 _ rfl
        · omega
      refine hK _ ?_; clear hK K
      dsimp only [ann4]
      refine can_mem _ rfl (by go_simp) (fun W hW hG K hK => ?_) (fun K v2 hK => ?_)
      · have hg : SlR (fun _ => True) W 1 (.slice (some ⟨vn v1, 0, none⟩) 4 4) 4 _ := hG _ (List.mem_append_right _ (List.mem_singleton.2 rfl)) (by show (22 : Nat) ∈ _; decide)
        go_simp
        refine (or_x [bcmp n m, bcmp (⟨#[]⟩) (⟨#[]⟩), lc L.length M.length, cfF L M] (some ⟨vn v1, 0, none⟩) 4 _ W hg (by simp)).mono ?_
        rintro e w' ⟨rfl, h⟩
        exact hK default w' h trivial
      refine hK _ ?_; clear hK K
      dsimp only [annVal]
      (refine can_pure0 rfl (fun K hK => ?_); go_simp; refine hK _ ?_; clear hK K)
      refine can_end (fun w10 h hG => ?_)
      clear hG Q0 Q1 Q2 R0 R1 R2
      have HE10 := Lib.hid (HE.out.trans h)
      clear h
      simp only [wpMix]
      have hv : cmpT (.mk n (⟨#[]⟩) L) (.mk m (⟨#[]⟩) M) = orL [bcmp n m, bcmp (⟨#[]⟩) (⟨#[]⟩), lc L.length M.length, cfF L M] := by
        rw [cmpT_or, HBB.out, ← or_lc L M]
        simp only [orL, or_0, or0_]
      go_wp2_with fail
      refine bodyPost_ret (v := .int .i64 (orL [bcmp n m, bcmp (⟨#[]⟩) (⟨#[]⟩), lc L.length M.length, cfF L M])) (by simp [results, Tryz.results83, go_sem]) rfl ⟨by rw [hv], HE10.out⟩
    · have hre := ne_emp hr
      have hr' : r ≠ nul := fun e => hr (by rw [e]; rfl)
      have HBB : Hid (bb (decide ((⟨#[]⟩ : By) ≠ nul)) (decide (r ≠ nul)) = 1) := Lib.hid (by rw [decide_eq_true hr']; rfl)
      clear hr'
      have a0 := cellRow HA.out 0 (.string n) rfl
      have a1 := cellRow HA.out 1 (.string ⟨#[]⟩) rfl
      have a2 := cellRow HA.out 2 (.slice aa L.length ca) rfl
      have b0 := cellRow HB.out 0 (.string m) rfl
      have b1 := cellRow HB.out 1 (.string r) rfl
      have b2 := cellRow HB.out 2 (.slice ab M.length cb) rfl
      go_enter Tryz.func83, Tryz.ntmps83
      go_wp2_with fail
      go_quiet (fail)
      generalize ((w.alloc (.cells #[.string n, .string ⟨#[]⟩, .slice aa L.length ca] 24)).alloc (.cells #[.string m, .string r, .slice ab M.length cb] 24)) = w1 at *
      have hD := (Upd.refl (fun _ => False) w1).drewN' nq
      have HE2 := Lib.hid (HE.out.trans hD)
      have HA2 := Lib.hid (hD.heap HA.out (fun h => h))
      have HB2 := Lib.hid (hD.heap HB.out (fun h => h))
      clear hD a0 a1 a2 b0 b1 b2 HA HB HE
      generalize w1.drewN nq = wd at *
      have HE := HE2
      have HA := HA2
      have HB := HB2
      clear HE2 HA2 HB2
      have hv : cmpT (.mk n (⟨#[]⟩) L) (.mk m (r) M) = 1 := by rw [cmpT_or, HBB.out]; rfl
      go_wp2_with fail
      refine bodyPost_ret (v := .int .i64 (1)) (by simp [results, Tryz.results83, go_sem]) rfl ⟨by rw [hv], HE.out⟩
  · have hse := ne_emp hs
    have hs' : s ≠ nul := fun e => hs (by rw [e]; rfl)
    by_cases hr : r.size = 0
    · have hre := empty_is _ hr
      subst hre
      have HBB : Hid (bb (decide (s ≠ nul)) (decide ((⟨#[]⟩ : By) ≠ nul)) = -1) := Lib.hid (by rw [decide_eq_true hs']; rfl)
      clear hs'
      have a0 := cellRow HA.out 0 (.string n) rfl
      have a1 := cellRow HA.out 1 (.string s) rfl
      have a2 := cellRow HA.out 2 (.slice aa L.length ca) rfl
      have b0 := cellRow HB.out 0 (.string m) rfl
      have b1 := cellRow HB.out 1 (.string ⟨#[]⟩) rfl
      have b2 := cellRow HB.out 2 (.slice ab M.length cb) rfl
      go_enter Tryz.func83, Tryz.ntmps83
      go_wp2_with fail
      go_quiet (fail)
      generalize ((w.alloc (.cells #[.string n, .string s, .slice aa L.length ca] 24)).alloc (.cells #[.string m, .string ⟨#[]⟩, .slice ab M.length cb] 24)) = w1 at *
      have hD := (Upd.refl (fun _ => False) w1).drewN' nq
      have HE2 := Lib.hid (HE.out.trans hD)
      have HA2 := Lib.hid (hD.heap HA.out (fun h => h))
      have HB2 := Lib.hid (hD.heap HB.out (fun h => h))
      clear hD a0 a1 a2 b0 b1 b2 HA HB HE
      generalize w1.drewN nq = wd at *
      have HE := HE2
      have HA := HA2
      have HB := HB2
      clear HE2 HA2 HB2
      have hv : cmpT (.mk n (s) L) (.mk m (⟨#[]⟩) M) = -1 := by rw [cmpT_or, HBB.out]; rfl
      go_wp2_with fail
      refine bodyPost_ret (v := .int .i64 (-1)) (by simp [results, Tryz.results83, go_sem]) rfl ⟨by rw [hv], HE.out⟩
    · have hre := ne_emp hr
      have hr' : r ≠ nul := fun e => hr (by rw [e]; rfl)
      have HBB : Hid (bb (decide (s ≠ nul)) (decide (r ≠ nul)) = 0) := Lib.hid (by rw [decide_eq_true hr', decide_eq_true hs']; rfl)
      clear hr' hs'
      have a0 := cellRow HA.out 0 (.string n) rfl
      have a1 := cellRow HA.out 1 (.string s) rfl
      have a2 := cellRow HA.out 2 (.slice aa L.length ca) rfl
      have b0 := cellRow HB.out 0 (.string m) rfl
      have b1 := cellRow HB.out 1 (.string r) rfl
      have b2 := cellRow HB.out 2 (.slice ab M.length cb) rfl
      go_enter Tryz.func83, Tryz.ntmps83
      go_wp2_with fail
      go_quiet (fail)
      generalize ((w.alloc (.cells #[.string n, .string s, .slice aa L.length ca] 24)).alloc (.cells #[.string m, .string r, .slice ab M.length cb] 24)) = w1 at *
      have hD := (Upd.refl (fun _ => False) w1).drewN' nq
      have HE2 := Lib.hid (HE.out.trans hD)
      have HA2 := Lib.hid (hD.heap HA.out (fun h => h))
      have HB2 := Lib.hid (hD.heap HB.out (fun h => h))
      clear hD a0 a1 a2 b0 b1 b2 HA HB HE
      generalize w1.drewN nq = wd at *
      have HE := HE2
      have HA := HA2
      have HB := HB2
      clear HE2 HA2 HB2
      go_upto_region 6 with fail
      have Q0 := fun x : XW wd => cellRow (x.ext.heap HA.out (fun h => h)) 0 (.string n) rfl
      have Q1 := fun x : XW wd => cellRow (x.ext.heap HA.out (fun h => h)) 1 (.string s) rfl
      have Q2 := fun x : XW wd => cellRow (x.ext.heap HA.out (fun h => h)) 2 (.slice aa L.length ca) rfl
      have R0 := fun x : XW wd => cellRow (x.ext.heap HB.out (fun h => h)) 0 (.string m) rfl
      have R1 := fun x : XW wd => cellRow (x.ext.heap HB.out (fun h => h)) 1 (.string r) rfl
      have R2 := fun x : XW wd => cellRow (x.ext.heap HB.out (fun h => h)) 2 (.slice ab M.length cb) rfl
      refine wp_region_par (α := Value) 25 [] [[], [0], [], [2], [0, 1, 2, 3], [], [5], [], [7], [0, 1, 2, 3, 4, 5, 6, 7, 8], [], [10], [10, 11], [], [13], [13, 14], [0, 1, 2, 3, 4, 5, 6, 7, 8, 9, 10, 11, 12, 13, 14, 15], [], [17], [], [19], [0, 1, 2, 3, 4, 5, 6, 7, 8, 9, 10, 11, 12, 13, 14, 15, 16, 17, 18, 19, 20], [0, 1, 2, 3, 4, 5, 6, 7, 8, 9, 10, 11, 12, 13, 14, 15, 16, 17, 18, 19, 20, 21], [0, 1, 2, 3, 4, 5, 6, 7, 8, 9, 10, 11, 12, 13, 14, 15, 16, 17, 18, 19, 20, 21, 22], [0, 1, 2, 3, 4, 5, 6, 7, 8, 9, 10, 11, 12, 13, 14, 15, 16, 17, 18, 19, 20, 21, 22, 23]]
        [none, none, none, none, some (annVal (.int .i64 (bcmp n m))), none, none, none, none, some (annVal (.int .i64 (bcmp (s) (r)))), none, none, none, none, none, none, some (annVal (.int .i64 (lc L.length M.length))), none, none, none, none, some (annVal (.int .i64 (cfF L M))), some (ann4 [bcmp n m, bcmp (s) (r), lc L.length M.length, cfF L M]), some (annVal (.int .i64 (orL [bcmp n m, bcmp (s) (r), lc L.length M.length, cfF L M]))), none]
        [false, false, false, false, true, false, false, false, false, true, false, false, false, false, false, false, true, false, false, false, false, true, true, true, false] (by kernel_rfl) (by kernel_rfl) rfl (fun _ _ d _ _ h => by cases d <;> exact h) ?_
      simp only [List.take_succ_cons, List.take_zero, pickO]
      iterate 4 (refine can_pure0 rfl (fun K hK => ?_); go_simp; refine hK _ ?_; clear hK K)
      refine can_mem _ rfl (by go_simp) (fun W hW hG K hK => ?_) (fun K v1 hK => ?_)
      · go_simp
        refine (Tryz.strings_Compare (n) (m) W).mono ?_
        rintro e w' ⟨rfl, rfl⟩
        rw [cb_bcmp]
        exact hK default w' (Upd.refl _ _) trivial
      refine hK _ ?_; clear hK K
      dsimp only [annVal]
      iterate 4 (refine can_pure0 rfl (fun K hK => ?_); go_simp; refine hK _ ?_; clear hK K)
      refine can_mem _ rfl (by go_simp) (fun W hW hG K hK => ?_) (fun K v1 hK => ?_)
      · go_simp
        refine (Tryz.strings_Compare (s) (r) W).mono ?_
        rintro e w' ⟨rfl, rfl⟩
        rw [cb_bcmp]
        exact hK default w' (Upd.refl _ _) trivial
      refine hK _ ?_; clear hK K
      dsimp only [annVal]
      iterate 6 (refine can_pure0 rfl (fun K hK => ?_); go_simp; refine hK _ ?_; clear hK K)
      refine can_mem _ rfl (by go_simp) (fun W hW hG K hK => ?_) (fun K v1 hK => ?_)
      · have hE := HE.out.trans hW
        go_simp
        refine (cmpI_x L.length M.length W).mono ?_
        rintro e w' ⟨rfl, h⟩
        exact hK default w' h trivial
      refine hK _ ?_; clear hK K
      dsimp only [annVal]
      iterate 4 (refine can_pure0 rfl (fun K hK => ?_); go_simp; refine hK _ ?_; clear hK K)
      refine can_mem _ rfl (by go_simp) (fun W hW hG K hK => ?_) (fun K v1 hK => ?_)
      · have hE := HE.out.trans hW
        go_simp
        refine (HCF.out W hE).mono ?_
        rintro e w' ⟨rfl, h⟩
        exact hK default w' h trivial
      refine hK _ ?_; clear hK K
      dsimp only [annVal]
      refine can_mem _ rfl (by go_simp) (fun W hW hG K hK => ?_) (fun K v1 hK => ?_)
      · go_simp
        refine hK (.slice (some ⟨W.heap.size, 0, none⟩) 4 4) _ ((Upd.refl _ W).alloc _) ?_
        show SlR (fun _ => True) _ 1 (.slice (some ⟨W.heap.size, 0, none⟩) 4 4) 4 ([bcmp n m, bcmp (s) (r), lc L.length M.length, cfF L M].map (Value.int .i64))
        refine SlR.mk' rfl rfl (by decide) (fun _ => trivial) (fun j hj => ?_)
        have hj4 : j < 4 := hj
        rcases j with _ | _ | _ | _ | j
        · exact cellRow (alloc0 _ _) 0 _ rfl
        · exact cellRow (alloc0 _ _) 1 _ rfl
        · exact cellRow (alloc0 _ _) 2 _ rfl
        · exact cellRow (alloc0 _ _) 3 _ rfl
        · omega
      refine hK _ ?_; clear hK K
      dsimp only [ann4]
      refine can_mem _ rfl (by go_simp) (fun W hW hG K hK => ?_) (fun K v2 hK => ?_)
      · have hg : SlR (fun _ => True) W 1 (.slice (some ⟨vn v1, 0, none⟩) 4 4) 4 _ := hG _ (List.mem_append_right _ (List.mem_singleton.2 rfl)) (by show (22 : Nat) ∈ _; decide)
        go_simp
        refine (or_x [bcmp n m, bcmp (s) (r), lc L.length M.length, cfF L M] (some ⟨vn v1, 0, none⟩) 4 _ W hg (by simp)).mono ?_
        rintro e w' ⟨rfl, h⟩
        exact hK default w' h trivial
      refine hK _ ?_; clear hK K
      dsimp only [annVal]
      (refine can_pure0 rfl (fun K hK => ?_); go_simp; refine hK _ ?_; clear hK K)
      refine can_end (fun w10 h hG => ?_)
      clear hG Q0 Q1 Q2 R0 R1 R2
      have HE10 := Lib.hid (HE.out.trans h)
      clear h
      simp only [wpMix]
      have hv : cmpT (.mk n (s) L) (.mk m (r) M) = orL [bcmp n m, bcmp (s) (r), lc L.length M.length, cfF L M] := by
        rw [cmpT_or, HBB.out, ← or_lc L M]
        simp only [orL, or_0, or0_]
      go_wp2_with fail
      refine bodyPost_ret (v := .int .i64 (orL [bcmp n m, bcmp (s) (r), lc L.length M.length, cfF L M])) (by simp [results, Tryz.results83, go_sem]) rfl ⟨by rw [hv], HE10.out⟩

end Go.Proofs.YtjjaknmnhhfjeaaGreatDoor

/- The law TermOrder. -/
namespace Go.Proofs.YtjjaknmnhhfjeaaGreatDoor
open Go.RowKit Go.Hw Go Go.Sort Go.Proofs Go.ChangeMaps
set_option linter.unusedVariables false
set_option linter.unusedSimpArgs false

open Tm
theorem tl3_row {S : Nat → Prop} {W : World} {n te : Nat} {fz : Nat × Nat} {a b c : Tm} {ua ub uc : Value} (h : W.heap[n]? = some (.cells #[.string a.name, .string a.sort, ua, .string b.name, .string b.sort, ub, .string c.name, .string c.sort, uc] te fz)) (hn : S n) (ha : TlR S W a.kids ua) (hb : TlR S W b.kids ub) (hc : TlR S W c.kids uc) : TlR S W [a, b, c] (.slice (some ⟨n, 0, none⟩) 3 3) := by
  refine .mk _ [ua, ub, uc] _ rfl ?_ (fun i hi => ?_)
  · refine SlR.mk' rfl rfl (Nat.le_refl _) (fun _ => hn) (fun j hj => ?_)
    have hj3 : j < 9 := hj
    rw [Nat.zero_add, cell_of_row W n j _ _ _ h]
    rcases (by omega : j = 0 ∨ j = 1 ∨ j = 2 ∨ j = 3 ∨ j = 4 ∨ j = 5 ∨ j = 6 ∨ j = 7 ∨ j = 8) with rfl | rfl | rfl | rfl | rfl | rfl | rfl | rfl | rfl <;> rfl
  · have hi2 : i < 3 := hi
    rcases (by omega : i = 0 ∨ i = 1 ∨ i = 2) with rfl | rfl | rfl
    · exact ha
    · exact hb
    · exact hc
def Rng (x : Int) : Prop := x = -1 ∨ x = 0 ∨ x = 1
theorem Rng.or {a b : Int} (h : Rng a) (h2 : Rng b) : Rng (orI a b) := by unfold orI; split <;> assumption
theorem cmpT_rng : ∀ t u : Tm, Rng (cmpT t u) := by
  refine Tm.ind (fun n s L ih => ?_)
  rintro ⟨m, r, M⟩
  rw [cmpT_or]
  have hb : ∀ p q, Rng (bb p q) := fun p q => by unfold bb Rng; (repeat' split) <;> simp
  have hc : ∀ p q, Rng (bcmp p q) := fun p q => by unfold bcmp Rng; (repeat' split) <;> simp
  have hl : ∀ p q, Rng (lc p q) := fun p q => by unfold lc Rng; (repeat' split) <;> simp
  have hk : ∀ (L M : List Tm), (∀ x ∈ L, ∀ y, Rng (cmpT x y)) → Rng (cmps L M) := by
    intro L
    induction L with
    | nil => intro M _; rw [cmps]; exact .inr (.inl rfl); simp
    | cons x L ihL =>
      intro M h
      cases M with
      | nil => rw [cmps]; exact .inr (.inl rfl); simp
      | cons y M => rw [cmps_or]; exact (h x (List.mem_cons_self ..) y).or (ihL M (fun z hz => h z (List.mem_cons_of_mem _ hz)))
  exact (hb _ _).or ((hc _ _).or ((hc _ _).or ((hl _ _).or (hk L M ih))))
def cpF (t u : Tm) : Int × Int := if wf nmB t = true ∧ wf nmB u = true then (cmpT t u, 0) else (0, 1)
theorem cp_ok {t u : Tm} (h : wf nmB t = true) (h2 : wf nmB u = true) : cpF t u = (cmpT t u, 0) := by unfold cpF; rw [if_pos ⟨h, h2⟩]
theorem cp_no {t u : Tm} (h : wf nmB t = false ∨ wf nmB u = false) : cpF t u = (0, 1) := by
  unfold cpF; rw [if_neg]; rintro ⟨h1, h2⟩; rcases h with h | h
  · rw [h] at h1; cases h1
  · rw [h] at h2; cases h2
set_option maxRecDepth 100000 in
set_option maxHeartbeats 2000000 in
theorem Compare_x (t1 t2 : Tm) (v1 v2 : Value) (w : World) (htab : AscT w) (hT : TmR (fun k => k < w.heap.size) w t1 v1) (hU : TmR (fun k => k < w.heap.size) w t2 v2) (hsz : t1.size ≤ 1000000) (hsz2 : t2.size ≤ 1000000) :
    Calls Tryz.prog 31 #[v1, v2] w fun e w' => e = .returned (.tuple #[.int .i64 (cpF t1 t2).1, .int .i64 (cpF t1 t2).2]) ∧ Ext w w' := by
  have HWA := Lib.hid (fun W (hW : Ext w W) => wellFormed_x t1 v1 W (asc_ext htab hW) ((hT.ext hW).weaken (fun k hk => Nat.lt_of_lt_of_le hk hW.size)) (by omega))
  have HWB := Lib.hid (fun W (hW : Ext w W) => wellFormed_x t2 v2 W (asc_ext htab hW) ((hU.ext hW).weaken (fun k hk => Nat.lt_of_lt_of_le hk hW.size)) (by omega))
  obtain ⟨a1, k1, rfl, hT⟩ := hT
  obtain ⟨a2, k2, rfl, hU⟩ := hU
  have H1S := Lib.hid hT
  have H2S := Lib.hid hU
  have HE1 := Lib.hid (((Upd.refl (fun _ => False) w).alloc (.cells #[.string t1.name, .string t1.sort, .slice a1 t1.kids.length k1] 24)).alloc (.cells #[.string t2.name, .string t2.sort, .slice a2 t2.kids.length k2] 24))
  have HA1 := Lib.hid (allocOld (alloc0 w (.cells #[.string t1.name, .string t1.sort, .slice a1 t1.kids.length k1] 24)) (.cells #[.string t2.name, .string t2.sort, .slice a2 t2.kids.length k2] 24))
  have HB1 := Lib.hid (alloc_at (w.alloc (.cells #[.string t1.name, .string t1.sort, .slice a1 t1.kids.length k1] 24)) (.cells #[.string t2.name, .string t2.sort, .slice a2 t2.kids.length k2] 24) (n := w.heap.size + 1) (by simp))
  have HP0 := Lib.hid (cp_no (t := t1) (u := t2))
  have HP1 := Lib.hid (cp_ok (t := t1) (u := t2))
  obtain ⟨WA, hwa⟩ : ∃ b, wf nmB t1 = b := ⟨_, rfl⟩
  obtain ⟨WB, hwb⟩ : ∃ b, wf nmB t2 = b := ⟨_, rfl⟩
  rw [hwa] at HWA HP0 HP1
  rw [hwb] at HWB HP0 HP1
  clear hT hU hwa hwb
  dsimp only [tV] at HWA HWB ⊢
  have a0_ := cellRow HA1.out 0 (.string t1.name) rfl
  have a1_ := cellRow HA1.out 1 (.string t1.sort) rfl
  have a2_ := cellRow HA1.out 2 (.slice a1 t1.kids.length k1) rfl
  have b0_ := cellRow HB1.out 0 (.string t2.name) rfl
  have b1_ := cellRow HB1.out 1 (.string t2.sort) rfl
  have b2_ := cellRow HB1.out 2 (.slice a2 t2.kids.length k2) rfl
  go_enter Tryz.func31, Tryz.ntmps31
  go_wp2_with fail
  generalize (w.alloc (.cells #[.string t1.name, .string t1.sort, .slice a1 t1.kids.length k1] 24)).alloc (.cells #[.string t2.name, .string t2.sort, .slice a2 t2.kids.length k2] 24) = w1 at *
  refine (HWA.out w1 HE1.out).mono ?_
  rintro e w2 ⟨rfl, h⟩
  clear a0_ a1_ a2_ b0_ b1_ b2_
  have HE2 := Lib.hid (HE1.out.trans h)
  have HA2 := Lib.hid (h.heap HA1.out (fun h => h))
  have HB2 := Lib.hid (h.heap HB1.out (fun h => h))
  clear h HE1 HA1 HB1 
  have a0_ := cellRow HA2.out 0 (.string t1.name) rfl
  have a1_ := cellRow HA2.out 1 (.string t1.sort) rfl
  have a2_ := cellRow HA2.out 2 (.slice a1 t1.kids.length k1) rfl
  have b0_ := cellRow HB2.out 0 (.string t2.name) rfl
  have b1_ := cellRow HB2.out 1 (.string t2.sort) rfl
  have b2_ := cellRow HB2.out 2 (.slice a2 t2.kids.length k2) rfl
  cases WA
  case false =>
    have HV := Lib.hid (HP0.out (.inl (by simp)))
    go_wp2_with fail
    refine bodyPost_ret (v := .tuple #[.int .i64 0, .int .i64 1]) (by simp [results, Tryz.results31, go_sem]) rfl ⟨by rw [HV.out], HE2.out⟩
  case true =>
    go_wp2_with fail
    refine (HWB.out w2 HE2.out).mono ?_
    rintro e w3 ⟨rfl, h⟩
    clear a0_ a1_ a2_ b0_ b1_ b2_
    have HE3 := Lib.hid (HE2.out.trans h)
    have HA3 := Lib.hid (h.heap HA2.out (fun h => h))
    have HB3 := Lib.hid (h.heap HB2.out (fun h => h))
    clear h HE2 HA2 HB2 
    have a0_ := cellRow HA3.out 0 (.string t1.name) rfl
    have a1_ := cellRow HA3.out 1 (.string t1.sort) rfl
    have a2_ := cellRow HA3.out 2 (.slice a1 t1.kids.length k1) rfl
    have b0_ := cellRow HB3.out 0 (.string t2.name) rfl
    have b1_ := cellRow HB3.out 1 (.string t2.sort) rfl
    have b2_ := cellRow HB3.out 2 (.slice a2 t2.kids.length k2) rfl
    cases WB
    case false =>
      have HV := Lib.hid (HP0.out (.inr (by simp)))
      go_wp2_with fail
      refine bodyPost_ret (v := .tuple #[.int .i64 0, .int .i64 1]) (by simp [results, Tryz.results31, go_sem]) rfl ⟨by rw [HV.out], HE3.out⟩
    case true =>
      have HV := Lib.hid (HP1.out (by simp) (by simp))
      have HCC := Lib.hid (pcompare_x t1 t2 (.agg #[.string t1.name, .string t1.sort, .slice a1 t1.kids.length k1]) (.agg #[.string t2.name, .string t2.sort, .slice a2 t2.kids.length k2]) _ _ w3 (TmR.of (H1S.out.ext HE3.out)) (TmR.of (H2S.out.ext HE3.out)) hsz)
      go_wp2_with fail
      refine HCC.out.mono ?_
      rintro e w4 ⟨rfl, h⟩
      have HE4 := Lib.hid (HE3.out.trans h)
      clear h
      go_wp2_with fail
      refine bodyPost_ret (v := .tuple #[.int .i64 (cmpT t1 t2), .int .i64 0]) (by simp [results, Tryz.results31, go_sem]) rfl ⟨by rw [HV.out], HE4.out⟩
set_option maxRecDepth 100000 in
set_option maxHeartbeats 8000000 in
theorem order_law (t1 t2 t3 : Tm) (v1 v2 v3 : Value) (w : World) (hA : TmR (fun k => k < w.heap.size) w t1 v1) (hB : TmR (fun k => k < w.heap.size) w t2 v2) (hC : TmR (fun k => k < w.heap.size) w t3 v3) (htab : AscT w) :
    Calls Tryz.prog 7 #[v1, v2, v3] w fun e w' => e = .returned (.bool true) ∧ Ext w w' := by
  obtain ⟨a1, k1, rfl, hA⟩ := hA
  obtain ⟨a2, k2, rfl, hB⟩ := hB
  obtain ⟨a3, k3, rfl, hC⟩ := hC
  have H1S := Lib.hid hA
  have H2S := Lib.hid hB
  have H3S := Lib.hid hC
  have HTAB := Lib.hid htab
  have HAW := Lib.hid (fun W (hW : Ext w W) => awake_x W (asc_ext htab hW))
  have HE1 := Lib.hid ((((Upd.refl (fun _ => False) w).alloc (.cells #[.string t1.name, .string t1.sort, .slice a1 t1.kids.length k1] 24)).alloc (.cells #[.string t2.name, .string t2.sort, .slice a2 t2.kids.length k2] 24)).alloc (.cells #[.string t3.name, .string t3.sort, .slice a3 t3.kids.length k3] 24))
  have HA1 := Lib.hid (allocOld (allocOld (alloc0 w (.cells #[.string t1.name, .string t1.sort, .slice a1 t1.kids.length k1] 24)) (.cells #[.string t2.name, .string t2.sort, .slice a2 t2.kids.length k2] 24)) (.cells #[.string t3.name, .string t3.sort, .slice a3 t3.kids.length k3] 24))
  have HB1 := Lib.hid (allocOld (alloc_at (w.alloc (.cells #[.string t1.name, .string t1.sort, .slice a1 t1.kids.length k1] 24)) (.cells #[.string t2.name, .string t2.sort, .slice a2 t2.kids.length k2] 24) (n := w.heap.size + 1) (by simp)) (.cells #[.string t3.name, .string t3.sort, .slice a3 t3.kids.length k3] 24))
  have HC1 := Lib.hid (alloc_at ((w.alloc (.cells #[.string t1.name, .string t1.sort, .slice a1 t1.kids.length k1] 24)).alloc (.cells #[.string t2.name, .string t2.sort, .slice a2 t2.kids.length k2] 24)) (.cells #[.string t3.name, .string t3.sort, .slice a3 t3.kids.length k3] 24) (n := w.heap.size + 1 + 1) (by simp))
  dsimp only [tV]
  clear hA hB hC htab
  have a0_ := cellRow HA1.out 0 (.string t1.name) rfl
  have a1_ := cellRow HA1.out 1 (.string t1.sort) rfl
  have a2_ := cellRow HA1.out 2 (.slice a1 t1.kids.length k1) rfl
  go_enter Tryz.func7, Tryz.ntmps7
  go_wp2_with fail
  generalize ((w.alloc (.cells #[.string t1.name, .string t1.sort, .slice a1 t1.kids.length k1] 24)).alloc (.cells #[.string t2.name, .string t2.sort, .slice a2 t2.kids.length k2] 24)).alloc (.cells #[.string t3.name, .string t3.sort, .slice a3 t3.kids.length k3] 24) = w1 at *
  refine (HAW.out _ HE1.out).mono ?_
  rintro e w2 ⟨rfl, h⟩
  clear a0_ a1_ a2_
  have HE2 := Lib.hid (HE1.out.trans h)
  have HA2 := Lib.hid (h.heap HA1.out (fun h => h))
  have HB2 := Lib.hid (h.heap HB1.out (fun h => h))
  have HC2 := Lib.hid (h.heap HC1.out (fun h => h))
  clear h HE1 HA1 HB1 HC1 
  clear HAW
  have a0_ := cellRow HA2.out 0 (.string t1.name) rfl
  have a1_ := cellRow HA2.out 1 (.string t1.sort) rfl
  have a2_ := cellRow HA2.out 2 (.slice a1 t1.kids.length k1) rfl
  have b0_ := cellRow HB2.out 0 (.string t2.name) rfl
  have b1_ := cellRow HB2.out 1 (.string t2.sort) rfl
  have b2_ := cellRow HB2.out 2 (.slice a2 t2.kids.length k2) rfl
  have c0_ := cellRow HC2.out 0 (.string t3.name) rfl
  have c1_ := cellRow HC2.out 1 (.string t3.sort) rfl
  have c2_ := cellRow HC2.out 2 (.slice a3 t3.kids.length k3) rfl
  have HC := Lib.hid (alloc0 w2 (.cells #[.string t1.name, .string t1.sort, .slice a1 t1.kids.length k1, .string t2.name, .string t2.sort, .slice a2 t2.kids.length k2, .string t3.name, .string t3.sort, .slice a3 t3.kids.length k3] 24))
  have hz := (Upd.refl (fun _ => False) w2).alloc (.cells #[.string t1.name, .string t1.sort, .slice a1 t1.kids.length k1, .string t2.name, .string t2.sort, .slice a2 t2.kids.length k2, .string t3.name, .string t3.sort, .slice a3 t3.kids.length k3] 24)
  have HE2a := Lib.hid (HE2.out.trans hz)
  have HA2a := Lib.hid (hz.heap HA2.out (fun h => h))
  have HB2a := Lib.hid (hz.heap HB2.out (fun h => h))
  have HC2a := Lib.hid (hz.heap HC2.out (fun h => h))
  clear hz HE2 HA2 HB2 HC2 
  have HCC := Lib.hid (big_x [t1, t2, t3] (.slice (some ⟨w2.heap.size, 0, none⟩) 3 3) (fun k => k < (w2.alloc (.cells #[.string t1.name, .string t1.sort, .slice a1 t1.kids.length k1, .string t2.name, .string t2.sort, .slice a2 t2.kids.length k2, .string t3.name, .string t3.sort, .slice a3 t3.kids.length k3] 24)).heap.size) (w2.alloc (.cells #[.string t1.name, .string t1.sort, .slice a1 t1.kids.length k1, .string t2.name, .string t2.sort, .slice a2 t2.kids.length k2, .string t3.name, .string t3.sort, .slice a3 t3.kids.length k3] 24)) (tl3_row HC.out (by simp) ((H1S.out.ext HE2a.out).weaken (fun k hk => Nat.lt_of_lt_of_le hk HE2a.out.size)) ((H2S.out.ext HE2a.out).weaken (fun k hk => Nat.lt_of_lt_of_le hk HE2a.out.size)) ((H3S.out.ext HE2a.out).weaken (fun k hk => Nat.lt_of_lt_of_le hk HE2a.out.size))) (fun k hk => hk) (by simp))
  go_wp2_with fail
  refine HCC.out.mono ?_
  clear HCC
  rintro e w3 ⟨rfl, h⟩
  clear a0_ a1_ a2_ b0_ b1_ b2_ c0_ c1_ c2_
  have HE3 := Lib.hid (HE2a.out.trans h)
  have HA3 := Lib.hid (h.heap HA2a.out (fun h => h))
  have HB3 := Lib.hid (h.heap HB2a.out (fun h => h))
  have HC3 := Lib.hid (h.heap HC2a.out (fun h => h))
  clear h HE2a HA2a HB2a HC2a 
  clear HC
  cases hbg : bigF [t1, t2, t3]
  case true =>
    clear hbg
    go_wp2_with fail
    refine bodyPost_ret (v := .bool true) (by simp [results, Tryz.results7, go_sem]) rfl ?_
    exact ⟨rfl, HE3.out⟩
  case false =>
    have hsz := big_all hbg
    have hsz2 : t1.size + t2.size + t3.size ≤ 1100 := by simp only [sizes] at hsz; omega
    clear hbg hsz
    obtain ⟨⟨x, ex⟩, hcp⟩ : ∃ y, cpF t1 t2 = y := ⟨_, rfl⟩
    have a0_ := cellRow HA3.out 0 (.string t1.name) rfl
    have a1_ := cellRow HA3.out 1 (.string t1.sort) rfl
    have a2_ := cellRow HA3.out 2 (.slice a1 t1.kids.length k1) rfl
    have b0_ := cellRow HB3.out 0 (.string t2.name) rfl
    have b1_ := cellRow HB3.out 1 (.string t2.sort) rfl
    have b2_ := cellRow HB3.out 2 (.slice a2 t2.kids.length k2) rfl
    have HCC := Lib.hid (Compare_x t1 t2 (.agg #[.string t1.name, .string t1.sort, .slice a1 t1.kids.length k1]) (.agg #[.string t2.name, .string t2.sort, .slice a2 t2.kids.length k2]) w3 (asc_ext HTAB.out HE3.out) ((TmR.of (t := t1) (H1S.out.ext HE3.out)).weaken (fun k hk => Nat.lt_of_lt_of_le hk HE3.out.size)) ((TmR.of (t := t2) (H2S.out.ext HE3.out)).weaken (fun k hk => Nat.lt_of_lt_of_le hk HE3.out.size)) (by omega) (by omega))
    rw [hcp] at HCC; dsimp only at HCC
    go_wp2_with fail
    refine HCC.out.mono ?_
    clear HCC
    rintro e w4 ⟨rfl, h⟩
    clear a0_ a1_ a2_ b0_ b1_ b2_
    have HE4 := Lib.hid (HE3.out.trans h)
    have HA4 := Lib.hid (h.heap HA3.out (fun h => h))
    have HB4 := Lib.hid (h.heap HB3.out (fun h => h))
    have HC4 := Lib.hid (h.heap HC3.out (fun h => h))
    clear h HE3 HA3 HB3 HC3 
    obtain ⟨WA, hwa⟩ : ∃ b, wf nmB t1 = b := ⟨_, rfl⟩
    obtain ⟨WB, hwb⟩ : ∃ b, wf nmB t2 = b := ⟨_, rfl⟩
    have a0_ := cellRow HA4.out 0 (.string t1.name) rfl
    have a1_ := cellRow HA4.out 1 (.string t1.sort) rfl
    have a2_ := cellRow HA4.out 2 (.slice a1 t1.kids.length k1) rfl
    have HCC := Lib.hid (rformed_x t1 (.agg #[.string t1.name, .string t1.sort, .slice a1 t1.kids.length k1]) _ w4 (TmR.of (t := t1) (H1S.out.ext HE4.out)))
    rw [hwa] at HCC
    go_wp2_with fail
    refine HCC.out.mono ?_
    clear HCC
    rintro e w5 ⟨rfl, h⟩
    clear a0_ a1_ a2_
    have HE5 := Lib.hid (HE4.out.trans h)
    have HA5 := Lib.hid (h.heap HA4.out (fun h => h))
    have HB5 := Lib.hid (h.heap HB4.out (fun h => h))
    have HC5 := Lib.hid (h.heap HC4.out (fun h => h))
    clear h HE4 HA4 HB4 HC4 
    cases WA
    case false =>
      have hx := hcp
      rw [cp_no (.inl hwa)] at hx
      injection hx with hx he
      subst hx he
      clear hcp
      go_wp2_with fail
      refine bodyPost_ret (v := .bool true) (by simp [results, Tryz.results7, go_sem]) rfl ?_
      exact ⟨rfl, HE5.out⟩
    case true =>
      have b0_ := cellRow HB5.out 0 (.string t2.name) rfl
      have b1_ := cellRow HB5.out 1 (.string t2.sort) rfl
      have b2_ := cellRow HB5.out 2 (.slice a2 t2.kids.length k2) rfl
      have HCC := Lib.hid (rformed_x t2 (.agg #[.string t2.name, .string t2.sort, .slice a2 t2.kids.length k2]) _ w5 (TmR.of (t := t2) (H2S.out.ext HE5.out)))
      rw [hwb] at HCC
      go_wp2_with fail
      refine HCC.out.mono ?_
      clear HCC
      rintro e w6 ⟨rfl, h⟩
      clear b0_ b1_ b2_
      have HE6 := Lib.hid (HE5.out.trans h)
      have HA6 := Lib.hid (h.heap HA5.out (fun h => h))
      have HB6 := Lib.hid (h.heap HB5.out (fun h => h))
      have HC6 := Lib.hid (h.heap HC5.out (fun h => h))
      clear h HE5 HA5 HB5 HC5 
      cases WB
      case false =>
        have hx := hcp
        rw [cp_no (.inr hwb)] at hx
        injection hx with hx he
        subst hx he
        clear hcp
        go_wp2_with fail
        refine bodyPost_ret (v := .bool true) (by simp [results, Tryz.results7, go_sem]) rfl ?_
        exact ⟨rfl, HE6.out⟩
      case true =>
        rw [cp_ok hwa hwb] at hcp
        injection hcp with hX he
        subst he
        have hN := cmpT_neg t1 t2
        rw [hX] at hN
        have hT3 := cmpT_T3 t1 t2 t3
        rw [hX] at hT3
        have rX := cmpT_rng t1 t2
        rw [hX] at rX
        obtain ⟨Y, hY⟩ : ∃ y, cmpT t2 t3 = y := ⟨_, rfl⟩
        obtain ⟨Z, hZ⟩ : ∃ y, cmpT t1 t3 = y := ⟨_, rfl⟩
        have rY := cmpT_rng t2 t3
        have rZ := cmpT_rng t1 t3
        rw [hY] at rY hT3
        rw [hZ] at rZ hT3
        obtain ⟨WC, hwc⟩ : ∃ b, wf nmB t3 = b := ⟨_, rfl⟩
        have b0_ := cellRow HB6.out 0 (.string t2.name) rfl
        have b1_ := cellRow HB6.out 1 (.string t2.sort) rfl
        have b2_ := cellRow HB6.out 2 (.slice a2 t2.kids.length k2) rfl
        have a0_ := cellRow HA6.out 0 (.string t1.name) rfl
        have a1_ := cellRow HA6.out 1 (.string t1.sort) rfl
        have a2_ := cellRow HA6.out 2 (.slice a1 t1.kids.length k1) rfl
        have HCC := Lib.hid (Compare_x t2 t1 (.agg #[.string t2.name, .string t2.sort, .slice a2 t2.kids.length k2]) (.agg #[.string t1.name, .string t1.sort, .slice a1 t1.kids.length k1]) w6 (asc_ext HTAB.out HE6.out) ((TmR.of (t := t2) (H2S.out.ext HE6.out)).weaken (fun k hk => Nat.lt_of_lt_of_le hk HE6.out.size)) ((TmR.of (t := t1) (H1S.out.ext HE6.out)).weaken (fun k hk => Nat.lt_of_lt_of_le hk HE6.out.size)) (by omega) (by omega))
        rw [cp_ok hwb hwa] at HCC; dsimp only at HCC; rw [hN] at HCC
        go_wp2_with fail
        refine HCC.out.mono ?_
        clear HCC
        rintro e w9 ⟨rfl, h⟩
        clear b0_ b1_ b2_ a0_ a1_ a2_
        have HE9 := Lib.hid (HE6.out.trans h)
        have HA9 := Lib.hid (h.heap HA6.out (fun h => h))
        have HB9 := Lib.hid (h.heap HB6.out (fun h => h))
        have HC9 := Lib.hid (h.heap HC6.out (fun h => h))
        clear h HE6 HA6 HB6 HC6 
        clear hN
        rcases rX with rfl | rfl | rfl
        · rw [show (- -1 : Int) = 1 from rfl]
          have a0_ := cellRow HA9.out 0 (.string t1.name) rfl
          have a1_ := cellRow HA9.out 1 (.string t1.sort) rfl
          have a2_ := cellRow HA9.out 2 (.slice a1 t1.kids.length k1) rfl
          have b0_ := cellRow HB9.out 0 (.string t2.name) rfl
          have b1_ := cellRow HB9.out 1 (.string t2.sort) rfl
          have b2_ := cellRow HB9.out 2 (.slice a2 t2.kids.length k2) rfl
          have HCC := Lib.hid (compare_x t1 t2 (.agg #[.string t1.name, .string t1.sort, .slice a1 t1.kids.length k1]) (.agg #[.string t2.name, .string t2.sort, .slice a2 t2.kids.length k2]) _ _ w9 (TmR.of (H1S.out.ext HE9.out)) (TmR.of (H2S.out.ext HE9.out)) (by omega))
          rw [hX] at HCC
          go_wp2_with fail
          refine HCC.out.mono ?_
          clear HCC
          rintro e w10 ⟨rfl, h⟩
          clear a0_ a1_ a2_ b0_ b1_ b2_
          have HE10 := Lib.hid (HE9.out.trans h)
          have HA10 := Lib.hid (h.heap HA9.out (fun h => h))
          have HB10 := Lib.hid (h.heap HB9.out (fun h => h))
          have HC10 := Lib.hid (h.heap HC9.out (fun h => h))
          clear h HE9 HA9 HB9 HC9 
          have c0_ := cellRow HC10.out 0 (.string t3.name) rfl
          have c1_ := cellRow HC10.out 1 (.string t3.sort) rfl
          have c2_ := cellRow HC10.out 2 (.slice a3 t3.kids.length k3) rfl
          have HCC := Lib.hid (rformed_x t3 (.agg #[.string t3.name, .string t3.sort, .slice a3 t3.kids.length k3]) _ w10 (TmR.of (t := t3) (H3S.out.ext HE10.out)))
          rw [hwc] at HCC
          go_wp2_with fail
          refine HCC.out.mono ?_
          clear HCC
          rintro e w11 ⟨rfl, h⟩
          clear c0_ c1_ c2_
          have HE11 := Lib.hid (HE10.out.trans h)
          have HA11 := Lib.hid (h.heap HA10.out (fun h => h))
          have HB11 := Lib.hid (h.heap HB10.out (fun h => h))
          have HC11 := Lib.hid (h.heap HC10.out (fun h => h))
          clear h HE10 HA10 HB10 HC10 
          cases WC
          case false =>
            go_wp2_with fail
            refine bodyPost_ret (v := .bool true) (by simp [results, Tryz.results7, go_sem]) rfl ?_
            exact ⟨rfl, HE11.out⟩
          case true =>
            have b0_ := cellRow HB11.out 0 (.string t2.name) rfl
            have b1_ := cellRow HB11.out 1 (.string t2.sort) rfl
            have b2_ := cellRow HB11.out 2 (.slice a2 t2.kids.length k2) rfl
            have c0_ := cellRow HC11.out 0 (.string t3.name) rfl
            have c1_ := cellRow HC11.out 1 (.string t3.sort) rfl
            have c2_ := cellRow HC11.out 2 (.slice a3 t3.kids.length k3) rfl
            have HCC := Lib.hid (Compare_x t2 t3 (.agg #[.string t2.name, .string t2.sort, .slice a2 t2.kids.length k2]) (.agg #[.string t3.name, .string t3.sort, .slice a3 t3.kids.length k3]) w11 (asc_ext HTAB.out HE11.out) ((TmR.of (t := t2) (H2S.out.ext HE11.out)).weaken (fun k hk => Nat.lt_of_lt_of_le hk HE11.out.size)) ((TmR.of (t := t3) (H3S.out.ext HE11.out)).weaken (fun k hk => Nat.lt_of_lt_of_le hk HE11.out.size)) (by omega) (by omega))
            rw [cp_ok hwb hwc] at HCC; dsimp only at HCC; rw [hY] at HCC
            go_wp2_with fail
            refine HCC.out.mono ?_
            clear HCC
            rintro e w12 ⟨rfl, h⟩
            clear b0_ b1_ b2_ c0_ c1_ c2_
            have HE12 := Lib.hid (HE11.out.trans h)
            have HA12 := Lib.hid (h.heap HA11.out (fun h => h))
            have HB12 := Lib.hid (h.heap HB11.out (fun h => h))
            have HC12 := Lib.hid (h.heap HC11.out (fun h => h))
            clear h HE11 HA11 HB11 HC11 
            have a0_ := cellRow HA12.out 0 (.string t1.name) rfl
            have a1_ := cellRow HA12.out 1 (.string t1.sort) rfl
            have a2_ := cellRow HA12.out 2 (.slice a1 t1.kids.length k1) rfl
            have c0_ := cellRow HC12.out 0 (.string t3.name) rfl
            have c1_ := cellRow HC12.out 1 (.string t3.sort) rfl
            have c2_ := cellRow HC12.out 2 (.slice a3 t3.kids.length k3) rfl
            have HCC := Lib.hid (Compare_x t1 t3 (.agg #[.string t1.name, .string t1.sort, .slice a1 t1.kids.length k1]) (.agg #[.string t3.name, .string t3.sort, .slice a3 t3.kids.length k3]) w12 (asc_ext HTAB.out HE12.out) ((TmR.of (t := t1) (H1S.out.ext HE12.out)).weaken (fun k hk => Nat.lt_of_lt_of_le hk HE12.out.size)) ((TmR.of (t := t3) (H3S.out.ext HE12.out)).weaken (fun k hk => Nat.lt_of_lt_of_le hk HE12.out.size)) (by omega) (by omega))
            rw [cp_ok hwa hwc] at HCC; dsimp only at HCC; rw [hZ] at HCC
            go_wp2_with fail
            refine HCC.out.mono ?_
            clear HCC
            rintro e w13 ⟨rfl, h⟩
            clear a0_ a1_ a2_ c0_ c1_ c2_
            have HE13 := Lib.hid (HE12.out.trans h)
            have HA13 := Lib.hid (h.heap HA12.out (fun h => h))
            have HB13 := Lib.hid (h.heap HB12.out (fun h => h))
            have HC13 := Lib.hid (h.heap HC12.out (fun h => h))
            clear h HE12 HA12 HB12 HC12 
            clear hX hY hZ hwa hwb hwc
            rcases rY with rfl | rfl | rfl <;> rcases rZ with rfl | rfl | rfl
            all_goals first
              | (exfalso; have := hT3 (by decide) (by decide); omega)
              | (go_wp2_with fail; refine bodyPost_ret (v := .bool true) (by simp [results, Tryz.results7, go_sem]) rfl ?_; exact ⟨rfl, HE13.out⟩)
        · rw [show (-0 : Int) = 0 from rfl]
          have a0_ := cellRow HA9.out 0 (.string t1.name) rfl
          have a1_ := cellRow HA9.out 1 (.string t1.sort) rfl
          have a2_ := cellRow HA9.out 2 (.slice a1 t1.kids.length k1) rfl
          have b0_ := cellRow HB9.out 0 (.string t2.name) rfl
          have b1_ := cellRow HB9.out 1 (.string t2.sort) rfl
          have b2_ := cellRow HB9.out 2 (.slice a2 t2.kids.length k2) rfl
          have HCC := Lib.hid (compare_x t1 t2 (.agg #[.string t1.name, .string t1.sort, .slice a1 t1.kids.length k1]) (.agg #[.string t2.name, .string t2.sort, .slice a2 t2.kids.length k2]) _ _ w9 (TmR.of (H1S.out.ext HE9.out)) (TmR.of (H2S.out.ext HE9.out)) (by omega))
          rw [hX] at HCC
          go_wp2_with fail
          refine HCC.out.mono ?_
          clear HCC
          rintro e w10 ⟨rfl, h⟩
          clear a0_ a1_ a2_ b0_ b1_ b2_
          have HE10 := Lib.hid (HE9.out.trans h)
          have HA10 := Lib.hid (h.heap HA9.out (fun h => h))
          have HB10 := Lib.hid (h.heap HB9.out (fun h => h))
          have HC10 := Lib.hid (h.heap HC9.out (fun h => h))
          clear h HE9 HA9 HB9 HC9 
          have c0_ := cellRow HC10.out 0 (.string t3.name) rfl
          have c1_ := cellRow HC10.out 1 (.string t3.sort) rfl
          have c2_ := cellRow HC10.out 2 (.slice a3 t3.kids.length k3) rfl
          have HCC := Lib.hid (rformed_x t3 (.agg #[.string t3.name, .string t3.sort, .slice a3 t3.kids.length k3]) _ w10 (TmR.of (t := t3) (H3S.out.ext HE10.out)))
          rw [hwc] at HCC
          go_wp2_with fail
          refine HCC.out.mono ?_
          clear HCC
          rintro e w11 ⟨rfl, h⟩
          clear c0_ c1_ c2_
          have HE11 := Lib.hid (HE10.out.trans h)
          have HA11 := Lib.hid (h.heap HA10.out (fun h => h))
          have HB11 := Lib.hid (h.heap HB10.out (fun h => h))
          have HC11 := Lib.hid (h.heap HC10.out (fun h => h))
          clear h HE10 HA10 HB10 HC10 
          cases WC
          case false =>
            go_wp2_with fail
            refine bodyPost_ret (v := .bool true) (by simp [results, Tryz.results7, go_sem]) rfl ?_
            exact ⟨rfl, HE11.out⟩
          case true =>
            have b0_ := cellRow HB11.out 0 (.string t2.name) rfl
            have b1_ := cellRow HB11.out 1 (.string t2.sort) rfl
            have b2_ := cellRow HB11.out 2 (.slice a2 t2.kids.length k2) rfl
            have c0_ := cellRow HC11.out 0 (.string t3.name) rfl
            have c1_ := cellRow HC11.out 1 (.string t3.sort) rfl
            have c2_ := cellRow HC11.out 2 (.slice a3 t3.kids.length k3) rfl
            have HCC := Lib.hid (Compare_x t2 t3 (.agg #[.string t2.name, .string t2.sort, .slice a2 t2.kids.length k2]) (.agg #[.string t3.name, .string t3.sort, .slice a3 t3.kids.length k3]) w11 (asc_ext HTAB.out HE11.out) ((TmR.of (t := t2) (H2S.out.ext HE11.out)).weaken (fun k hk => Nat.lt_of_lt_of_le hk HE11.out.size)) ((TmR.of (t := t3) (H3S.out.ext HE11.out)).weaken (fun k hk => Nat.lt_of_lt_of_le hk HE11.out.size)) (by omega) (by omega))
            rw [cp_ok hwb hwc] at HCC; dsimp only at HCC; rw [hY] at HCC
            go_wp2_with fail
            refine HCC.out.mono ?_
            clear HCC
            rintro e w12 ⟨rfl, h⟩
            clear b0_ b1_ b2_ c0_ c1_ c2_
            have HE12 := Lib.hid (HE11.out.trans h)
            have HA12 := Lib.hid (h.heap HA11.out (fun h => h))
            have HB12 := Lib.hid (h.heap HB11.out (fun h => h))
            have HC12 := Lib.hid (h.heap HC11.out (fun h => h))
            clear h HE11 HA11 HB11 HC11 
            have a0_ := cellRow HA12.out 0 (.string t1.name) rfl
            have a1_ := cellRow HA12.out 1 (.string t1.sort) rfl
            have a2_ := cellRow HA12.out 2 (.slice a1 t1.kids.length k1) rfl
            have c0_ := cellRow HC12.out 0 (.string t3.name) rfl
            have c1_ := cellRow HC12.out 1 (.string t3.sort) rfl
            have c2_ := cellRow HC12.out 2 (.slice a3 t3.kids.length k3) rfl
            have HCC := Lib.hid (Compare_x t1 t3 (.agg #[.string t1.name, .string t1.sort, .slice a1 t1.kids.length k1]) (.agg #[.string t3.name, .string t3.sort, .slice a3 t3.kids.length k3]) w12 (asc_ext HTAB.out HE12.out) ((TmR.of (t := t1) (H1S.out.ext HE12.out)).weaken (fun k hk => Nat.lt_of_lt_of_le hk HE12.out.size)) ((TmR.of (t := t3) (H3S.out.ext HE12.out)).weaken (fun k hk => Nat.lt_of_lt_of_le hk HE12.out.size)) (by omega) (by omega))
            rw [cp_ok hwa hwc] at HCC; dsimp only at HCC; rw [hZ] at HCC
            go_wp2_with fail
            refine HCC.out.mono ?_
            clear HCC
            rintro e w13 ⟨rfl, h⟩
            clear a0_ a1_ a2_ c0_ c1_ c2_
            have HE13 := Lib.hid (HE12.out.trans h)
            have HA13 := Lib.hid (h.heap HA12.out (fun h => h))
            have HB13 := Lib.hid (h.heap HB12.out (fun h => h))
            have HC13 := Lib.hid (h.heap HC12.out (fun h => h))
            clear h HE12 HA12 HB12 HC12 
            clear hX hY hZ hwa hwb hwc
            rcases rY with rfl | rfl | rfl <;> rcases rZ with rfl | rfl | rfl
            all_goals first
              | (exfalso; have := hT3 (by decide) (by decide); omega)
              | (go_wp2_with fail; refine bodyPost_ret (v := .bool true) (by simp [results, Tryz.results7, go_sem]) rfl ?_; exact ⟨rfl, HE13.out⟩)
        · 
          have a0_ := cellRow HA9.out 0 (.string t1.name) rfl
          have a1_ := cellRow HA9.out 1 (.string t1.sort) rfl
          have a2_ := cellRow HA9.out 2 (.slice a1 t1.kids.length k1) rfl
          have b0_ := cellRow HB9.out 0 (.string t2.name) rfl
          have b1_ := cellRow HB9.out 1 (.string t2.sort) rfl
          have b2_ := cellRow HB9.out 2 (.slice a2 t2.kids.length k2) rfl
          have HCC := Lib.hid (compare_x t1 t2 (.agg #[.string t1.name, .string t1.sort, .slice a1 t1.kids.length k1]) (.agg #[.string t2.name, .string t2.sort, .slice a2 t2.kids.length k2]) _ _ w9 (TmR.of (H1S.out.ext HE9.out)) (TmR.of (H2S.out.ext HE9.out)) (by omega))
          rw [hX] at HCC
          go_wp2_with fail
          refine HCC.out.mono ?_
          clear HCC
          rintro e w10 ⟨rfl, h⟩
          clear a0_ a1_ a2_ b0_ b1_ b2_
          have HE10 := Lib.hid (HE9.out.trans h)
          have HA10 := Lib.hid (h.heap HA9.out (fun h => h))
          have HB10 := Lib.hid (h.heap HB9.out (fun h => h))
          have HC10 := Lib.hid (h.heap HC9.out (fun h => h))
          clear h HE9 HA9 HB9 HC9 
          have c0_ := cellRow HC10.out 0 (.string t3.name) rfl
          have c1_ := cellRow HC10.out 1 (.string t3.sort) rfl
          have c2_ := cellRow HC10.out 2 (.slice a3 t3.kids.length k3) rfl
          have HCC := Lib.hid (rformed_x t3 (.agg #[.string t3.name, .string t3.sort, .slice a3 t3.kids.length k3]) _ w10 (TmR.of (t := t3) (H3S.out.ext HE10.out)))
          rw [hwc] at HCC
          go_wp2_with fail
          refine HCC.out.mono ?_
          clear HCC
          rintro e w11 ⟨rfl, h⟩
          clear c0_ c1_ c2_
          have HE11 := Lib.hid (HE10.out.trans h)
          have HA11 := Lib.hid (h.heap HA10.out (fun h => h))
          have HB11 := Lib.hid (h.heap HB10.out (fun h => h))
          have HC11 := Lib.hid (h.heap HC10.out (fun h => h))
          clear h HE10 HA10 HB10 HC10 
          cases WC
          case false =>
            go_wp2_with fail
            refine bodyPost_ret (v := .bool true) (by simp [results, Tryz.results7, go_sem]) rfl ?_
            exact ⟨rfl, HE11.out⟩
          case true =>
            have b0_ := cellRow HB11.out 0 (.string t2.name) rfl
            have b1_ := cellRow HB11.out 1 (.string t2.sort) rfl
            have b2_ := cellRow HB11.out 2 (.slice a2 t2.kids.length k2) rfl
            have c0_ := cellRow HC11.out 0 (.string t3.name) rfl
            have c1_ := cellRow HC11.out 1 (.string t3.sort) rfl
            have c2_ := cellRow HC11.out 2 (.slice a3 t3.kids.length k3) rfl
            have HCC := Lib.hid (Compare_x t2 t3 (.agg #[.string t2.name, .string t2.sort, .slice a2 t2.kids.length k2]) (.agg #[.string t3.name, .string t3.sort, .slice a3 t3.kids.length k3]) w11 (asc_ext HTAB.out HE11.out) ((TmR.of (t := t2) (H2S.out.ext HE11.out)).weaken (fun k hk => Nat.lt_of_lt_of_le hk HE11.out.size)) ((TmR.of (t := t3) (H3S.out.ext HE11.out)).weaken (fun k hk => Nat.lt_of_lt_of_le hk HE11.out.size)) (by omega) (by omega))
            rw [cp_ok hwb hwc] at HCC; dsimp only at HCC; rw [hY] at HCC
            go_wp2_with fail
            refine HCC.out.mono ?_
            clear HCC
            rintro e w12 ⟨rfl, h⟩
            clear b0_ b1_ b2_ c0_ c1_ c2_
            have HE12 := Lib.hid (HE11.out.trans h)
            have HA12 := Lib.hid (h.heap HA11.out (fun h => h))
            have HB12 := Lib.hid (h.heap HB11.out (fun h => h))
            have HC12 := Lib.hid (h.heap HC11.out (fun h => h))
            clear h HE11 HA11 HB11 HC11 
            have a0_ := cellRow HA12.out 0 (.string t1.name) rfl
            have a1_ := cellRow HA12.out 1 (.string t1.sort) rfl
            have a2_ := cellRow HA12.out 2 (.slice a1 t1.kids.length k1) rfl
            have c0_ := cellRow HC12.out 0 (.string t3.name) rfl
            have c1_ := cellRow HC12.out 1 (.string t3.sort) rfl
            have c2_ := cellRow HC12.out 2 (.slice a3 t3.kids.length k3) rfl
            have HCC := Lib.hid (Compare_x t1 t3 (.agg #[.string t1.name, .string t1.sort, .slice a1 t1.kids.length k1]) (.agg #[.string t3.name, .string t3.sort, .slice a3 t3.kids.length k3]) w12 (asc_ext HTAB.out HE12.out) ((TmR.of (t := t1) (H1S.out.ext HE12.out)).weaken (fun k hk => Nat.lt_of_lt_of_le hk HE12.out.size)) ((TmR.of (t := t3) (H3S.out.ext HE12.out)).weaken (fun k hk => Nat.lt_of_lt_of_le hk HE12.out.size)) (by omega) (by omega))
            rw [cp_ok hwa hwc] at HCC; dsimp only at HCC; rw [hZ] at HCC
            go_wp2_with fail
            refine HCC.out.mono ?_
            clear HCC
            rintro e w13 ⟨rfl, h⟩
            clear a0_ a1_ a2_ c0_ c1_ c2_
            have HE13 := Lib.hid (HE12.out.trans h)
            have HA13 := Lib.hid (h.heap HA12.out (fun h => h))
            have HB13 := Lib.hid (h.heap HB12.out (fun h => h))
            have HC13 := Lib.hid (h.heap HC12.out (fun h => h))
            clear h HE12 HA12 HB12 HC12 
            clear hX hY hZ hwa hwb hwc
            rcases rY with rfl | rfl | rfl <;> rcases rZ with rfl | rfl | rfl
            all_goals first
              | (exfalso; have := hT3 (by decide) (by decide); omega)
              | (go_wp2_with fail; refine bodyPost_ret (v := .bool true) (by simp [results, Tryz.results7, go_sem]) rfl ?_; exact ⟨rfl, HE13.out⟩)

end Go.Proofs.YtjjaknmnhhfjeaaGreatDoor
