/- The texts N14 N15 N16 N17, one behind the other. -/
import Derived.Test.YtlkcjmaiahnodaaGreatDoorYAN
import Derived.Test.YtlkcjmaiahnodaaGreatDoorYAI
import Derived.Test.YtlkcjmaiahnodaaGreatDoorYAK
/- Unify. -/
namespace Go.Proofs.YtlkcjmaiahnodaaGreatDoor
open Go.RowKit Go.Hw Go
set_option linter.unusedVariables false
set_option linter.unusedSimpArgs false

open Tm Go.Sort Go.Proofs Go.ChangeMaps
set_option maxRecDepth 100000 in
set_option maxHeartbeats 2000000 in
theorem Unify_x {T : List Nr} {ad : Nat → Nat × Nat} {S : Nat → Prop} (F : Nat) (a b : Tm) (aa ba : Option Addr) (ac bc : Nat) (w : World) (htab : AscT w)
    (hA : TmR (fun k => k < w.heap.size) w a (tV a (.slice aa a.kids.length ac))) (hB : TmR (fun k => k < w.heap.size) w b (tV b (.slice ba b.kids.length bc))) (hsa : a.size ≤ 100000) (hsb : b.size ≤ 100000) (ha : wf nmB a = true) (hb : wf nmB b = true)
    (hc : ∀ v ∈ (varsT a ++ varsT b), ∀ u ∈ (varsT a ++ varsT b), v.1 = u.1 → v = u) (hso : ∀ v ∈ (varsT a ++ varsT b), v.2 ≠ nul) (had0 : ad 0 = (w.heap.size, 0)) (had1 : ad 1 = (w.heap.size + 1, 0))
    (hN : ∀ W, Ext w W → W.heap[w.heap.size]? = some (.cells #[.string a.name, .string a.sort, .slice aa a.kids.length ac] 24 (0, 0)) → W.heap[w.heap.size + 1]? = some (.cells #[.string b.name, .string b.sort, .slice ba b.kids.length bc] 24 (0, 0)) → NdR T ad S W) (hS : ∀ k, S k → k < w.heap.size + 2)
    (hTB : ∀ (i : Nat) (r : Nr), T[i]? = some r → r.ks.length ≤ 1000000) (R : Option St) (hR : uRes T F (varsT a ++ varsT b) = some R)
    (τ : Vd → Tm) (hfin : ∀ st, R = some st → ∀ v ∈ (varsT a ++ varsT b), ∃ c C, (fnd st.vs v.1).isSome = true ∧ varF F st v.1 v.2 = some (st, c) ∧ st.cs[c]? = some C ∧ C.sz ≤ 1000 ∧ C.dp ≤ 60 ∧ vaG T st F c = some (τ v) ∧ (τ v).size ≤ 100000) :
    Calls Tryz.prog 17 #[tV a (.slice aa a.kids.length ac), tV b (.slice ba b.kids.length bc)] w fun e w' => ((R = none ∧ e = .returned (.tuple #[.slice none 0 0, .int .i64 12])) ∨ (R ≠ none ∧ ∃ r L, e = .returned (.tuple #[r, .int .i64 0]) ∧ BnR (fun k => w.heap.size ≤ k ∧ k < w'.heap.size) (fun k => w.heap.size ≤ k ∧ k < w'.heap.size) w' r L ∧ AscK (Prod.fst : Bd → By) L ∧ (∀ f, f ∈ L ↔ ((∃ v ∈ (varsT a ++ varsT b), f = (v.1, v.2, τ v)) ∧ selfB f = false)))) ∧ Ext w w' := by
  have HA := Lib.hid hA
  have HB := Lib.hid hB
  have HAT := Lib.hid htab
  have HC := Lib.hid hc
  have HSO := Lib.hid hso
  have HFIN := Lib.hid hfin
  have HTB := Lib.hid hTB
  have HSA := Lib.hid (And.intro hsa hsb)
  have HWF := Lib.hid (And.intro ha hb)
  have HSS := Lib.hid hS
  have HNN := Lib.hid hN
  have HAD := Lib.hid (And.intro had0 had1)
  have HRR := Lib.hid hR
  have HGV := Lib.hid (fun W (hW : Ext w W) => given_ok a b _ _ W (asc_ext htab hW) ((HA.out.ext hW).weaken (fun k hk => Nat.lt_of_lt_of_le hk hW.size)) ((HB.out.ext hW).weaken (fun k hk => Nat.lt_of_lt_of_le hk hW.size)) (by omega) (by omega) ha hb (fun v hv u hu e => by rw [hc v (List.mem_append_left _ hv) u (List.mem_append_right _ hu) e]))
  have HVA := Lib.hid (fun W (hW : Ext w W) => tvars_x a _ W (asc_ext htab hW) ((HA.out.ext hW).weaken (fun k hk => Nat.lt_of_lt_of_le hk hW.size)) (by omega))
  have HVB := Lib.hid (fun W (hW : Ext w W) => tvars_x b _ W (asc_ext htab hW) ((HB.out.ext hW).weaken (fun k hk => Nat.lt_of_lt_of_le hk hW.size)) (by omega))
  rw [varsF_wf ha] at HVA
  rw [varsF_wf hb] at HVB
  dsimp only [tV] at HGV HVA HVB ⊢
  have hZ := ((Upd.refl (fun _ => False) w).alloc (.cells #[.string a.name, .string a.sort, .slice aa a.kids.length ac] 24)).alloc (.cells #[.string b.name, .string b.sort, .slice ba b.kids.length bc] 24)
  have hb2 := allocOld (alloc0 w (.cells #[.string a.name, .string a.sort, .slice aa a.kids.length ac] 24)) (.cells #[.string b.name, .string b.sort, .slice ba b.kids.length bc] 24)
  have hb3 := alloc_at (w.alloc (.cells #[.string a.name, .string a.sort, .slice aa a.kids.length ac] 24)) (.cells #[.string b.name, .string b.sort, .slice ba b.kids.length bc] 24) (n := w.heap.size + 1) (by simp)
  have hsz : w.heap.size + 2 ≤ ((w.alloc (.cells #[.string a.name, .string a.sort, .slice aa a.kids.length ac] 24)).alloc (.cells #[.string b.name, .string b.sort, .slice ba b.kids.length bc] 24)).heap.size := by simp
  clear hA hB htab hc hso hfin hTB hsa hsb ha hb hS hN had0 had1 hR
  have x0 := cellRow hb2 0 (.string a.name) rfl
  have x1 := cellRow hb2 1 (.string a.sort) rfl
  have x2 := cellRow hb2 2 (.slice aa a.kids.length ac) rfl
  have y0 := cellRow hb3 0 (.string b.name) rfl
  have y1 := cellRow hb3 1 (.string b.sort) rfl
  have y2 := cellRow hb3 2 (.slice ba b.kids.length bc) rfl
  have HZ := Lib.hid hZ
  have H2 := Lib.hid hb2
  have H3 := Lib.hid hb3
  have HZS := Lib.hid hsz
  clear hZ hb2 hb3 hsz
  go_enter Tryz.func17, Tryz.ntmps17
  go_wp2_with fail
  refine (HGV.out _ HZ.out).mono ?_
  rintro e w3 ⟨rfl, hw3⟩
  have HE3 := Lib.hid (HZ.out.trans hw3)
  have HS3 : Hid (w.heap.size + 2 ≤ w3.heap.size) := Lib.hid (Nat.le_trans HZS.out hw3.size)
  have H23 := Lib.hid (hw3.heap H2.out (fun h => h))
  have H33 := Lib.hid (hw3.heap H3.out (fun h => h))
  clear hw3 x0 x1 x2 y0 y1 y2 H2 H3 HZ HGV HZS
  obtain ⟨bv, hbv⟩ : ∃ n, w3.heap.size = n := ⟨_, rfl⟩
  obtain ⟨bn, hbn⟩ : ∃ n, bv + 1 = n := ⟨_, rfl⟩
  obtain ⟨ub, hub⟩ : ∃ n, bn + 1 = n := ⟨_, rfl⟩
  have hx4 := (((Upd.refl (fun _ => False) w3).alloc (.map #[] 0)).alloc (.map #[] 0)).alloc (.cells #[.map (some bv), .map (some bn)] 108)
  have hmv : MpR (fun s : ByteArray => Value.string s) (((w3.alloc (.map #[] 0)).alloc (.map #[] 0)).alloc (.cells #[.map (some bv), .map (some bn)] 108)) bv [] := by
    have := MpR.made (fun s : ByteArray => Value.string s) w3
    rw [hbv] at this
    exact this.ext (((Upd.refl (fun _ => False) _).alloc _).alloc _)
  have hmn : MpR adV (((w3.alloc (.map #[] 0)).alloc (.map #[] 0)).alloc (.cells #[.map (some bv), .map (some bn)] 108)) bn [] := by
    have := MpR.made adV (w3.alloc (.map #[] 0))
    rw [show (w3.alloc (.map #[] 0)).heap.size = bn by simp; omega] at this
    exact this.ext ((Upd.refl (fun _ => False) _).alloc _)
  have hub4 := alloc_at ((w3.alloc (.map #[] 0)).alloc (.map #[] 0)) (.cells #[.map (some bv), .map (some bn)] 108) (n := ub) (by simp; omega)
  have hsz4 : (((w3.alloc (.map #[] 0)).alloc (.map #[] 0)).alloc (.cells #[.map (some bv), .map (some bn)] 108)).heap.size = bv + 3 := by simp; omega
  have hmm := @run_makeMap Tryz.prog
  go_wp2_with fail
  generalize (((w3.alloc (.map #[] 0)).alloc (.map #[] 0)).alloc (.cells #[.map (some bv), .map (some bn)] 108)) = w4 at *
  have HS4 : Hid (w.heap.size + 2 ≤ bv ∧ bn = bv + 1 ∧ ub = bv + 2 ∧ w4.heap.size = bv + 3) := Lib.hid ⟨by rw [← hbv]; exact HS3.out, hbn.symm, by omega, hsz4⟩
  have HX4 : Hid (Ext w3 w4) := Lib.hid hx4
  have HEX4 : Hid (Ext w w4) := Lib.hid (HE3.out.trans hx4)
  have H24 := Lib.hid (hx4.heap H23.out (fun h => h))
  have H34 := Lib.hid (hx4.heap H33.out (fun h => h))
  have HU4 : Hid (Ur T ad S 121 108 bv bn ub [] ⟨[], [], []⟩ w4) := Lib.hid ⟨⟨hmv, hmn, rfl, by simp; omega, fun c x h => by simp at h, fun e h => (by cases h), fun e h => (by cases h), fun x h => (by cases h)⟩,
    HNN.out _ HEX4.out H24.out H34.out, hub4, (by rintro (h | h | h) <;> first | omega | cases h), fun k hk => ⟨by have := HSS.out k hk; have := HS4.out; omega, by rintro (h | h | h) <;> first | (have := HSS.out k hk; have := HS4.out; omega) | cases h⟩⟩
  have HFX : Hid (∀ W, Upd (Fb bv bn []) w4 W → Ext w W) := Lib.hid (fun W hW => HEX4.out.trans' hW (fun j hj h => by have := HS4.out; rcases h with h | h | h <;> first | omega | cases h))
  clear hmv hmn hub4 hsz4 hbv hbn hub hx4 hmm H23 H33 HX4 HS3 HE3
  have hR := HRR.out
  unfold uRes at hR
  cases hun : unF T F ⟨[], [], []⟩ 0 1 with
  | none => rw [hun] at hR; cases hR
  | some q =>
  obtain ⟨st1, ok1⟩ := q
  rw [hun] at hR
  have HU1 := Lib.hid (unify_x HTB.out F [] ⟨[], [], []⟩ st1 w4 0 1 ok1 HU4.out hun)
  rw [HAD.out.1, HAD.out.2] at HU1
  have HR1 := Lib.hid hR
  clear hR hun
  refine HU1.out.mono ?_
  rintro e w5 ⟨rfl, bk1, hu1⟩
  have HXF := Lib.hid (HFX.out _ hu1.upd)
  have HUS1 := Lib.hid hu1
  clear hu1 HU1
  have hR := HR1.out
  cases ok1 with
  | false =>
    simp only at hR
    have hRn : R = none := by injection hR with h; exact h.symm
    subst hRn
    go_wp2_with fail
    go_ret2
    exact ⟨rfl, HXF.out⟩
  | true =>
  simp only at hR
  have HR2 := Lib.hid hR
  have hn2 : ∀ k, k < w.heap.size + 2 → ¬ Fb bv bn [] k := fun k h1 h => by have := HS4.out; rcases h with h | h | h <;> first | omega | cases h
  have H25 := Lib.hid (HUS1.out.upd.heap H24.out (hn2 _ (by omega)))
  have H35 := Lib.hid (HUS1.out.upd.heap H34.out (hn2 _ (by omega)))
  clear hn2 H24 H34 HR1 hR
  have x0 := cellRow H25.out 0 (.string a.name) rfl
  have x1 := cellRow H25.out 1 (.string a.sort) rfl
  have x2 := cellRow H25.out 2 (.slice aa a.kids.length ac) rfl
  go_wp2_with fail
  refine (HVA.out _ HXF.out).mono ?_
  rintro e w6 ⟨r1, rfl, hr1, hw6⟩
  have HE6 := Lib.hid (HXF.out.trans hw6)
  have H26 := Lib.hid (hw6.heap H25.out (fun h => h))
  have H36 := Lib.hid (hw6.heap H35.out (fun h => h))
  have HUS2 := Lib.hid (HUS1.out.ext hw6)
  have HF1 := Lib.hid hr1
  obtain ⟨p1, c1, hp1⟩ := FiR.shape hr1
  subst hp1
  clear hw6 x0 x1 x2 H25 H35 HUS1 hr1 HVA
  have y0 := cellRow H36.out 0 (.string b.name) rfl
  have y1 := cellRow H36.out 1 (.string b.sort) rfl
  have y2 := cellRow H36.out 2 (.slice ba b.kids.length bc) rfl
  go_wp2_with fail
  refine (HVB.out _ HE6.out).mono ?_
  rintro e w7 ⟨r2, rfl, hr2, hw7⟩
  have HE7 := Lib.hid (HE6.out.trans hw7)
  have H27 := Lib.hid (hw7.heap H26.out (fun h => h))
  have H37 := Lib.hid (hw7.heap H36.out (fun h => h))
  have HUS3 := Lib.hid (HUS2.out.ext hw7)
  have HF17 := Lib.hid (FiR.ext HF1.out hw7)
  have HF27 := Lib.hid hr2
  obtain ⟨p2, c2, hp2⟩ := FiR.shape hr2
  subst hp2
  clear hw7 y0 y1 y2 H26 H36 HUS2 hr2 HVB HF1
  have hmm := @run_makeMap Tryz.prog
  have hla : (varsT a).length ≤ 100000 := Nat.le_trans (varsT_len HWF.out.1) HSA.out.1
  have hlb : (varsT b).length ≤ 100000 := Nat.le_trans (varsT_len HWF.out.2) HSA.out.2
  have hx8 := ((Upd.refl (fun _ => False) w7).alloc (.map #[] 0)).alloc (.cells #[.slice p1 (varsT a).length c1, .slice p2 (varsT b).length c2] 111)
  have hb8 := alloc_at (w7.alloc (.map #[] 0)) (.cells #[.slice p1 (varsT a).length c1, .slice p2 (varsT b).length c2] 111) (n := w7.heap.size + 1) (by simp)
  have hcc := concat_x (varsT a) (varsT b) _ _ (fun _ => True) (w7.heap.size + 1) _ (SlR.weaken (FiR.ext HF17.out hx8) (fun _ _ => trivial)) (SlR.weaken (FiR.ext HF27.out hx8) (fun _ _ => trivial)) (cellRow hb8 0 _ rfl) (cellRow hb8 1 _ rfl) (by omega) (by omega)
  have HCC := Lib.hid hcc
  have hmt : MpR (fun s : ByteArray => Value.string s) ((w7.alloc (.map #[] 0)).alloc (.cells #[.slice p1 (varsT a).length c1, .slice p2 (varsT b).length c2] 111)) w7.heap.size [] := (MpR.made _ w7).ext ((Upd.refl (fun _ => False) _).alloc _)
  have hs8 : ((w7.alloc (.map #[] 0)).alloc (.cells #[.slice p1 (varsT a).length c1, .slice p2 (varsT b).length c2] 111)).heap.size = w7.heap.size + 2 := by simp
  have HX8 := Lib.hid hx8
  have HMT8 := Lib.hid hmt
  have HS8 := Lib.hid hs8
  have HNF7 : Hid (∀ k, Fb bv bn bk1 k → k < w7.heap.size) := Lib.hid (fun k hk => HUS3.out.ur.us.lt k hk)
  have HS7 : Hid (w4.heap.size ≤ w7.heap.size) := Lib.hid HUS3.out.upd.size
  obtain ⟨VL, hVL⟩ : ∃ L, varsT a ++ varsT b = L := ⟨_, rfl⟩
  have hlv : VL.length ≤ 200000 := by rw [← hVL, List.length_append]; omega
  clear hla hlb hx8 hb8 hcc hmt hs8
  go_wp2_with fail
  generalize (w7.alloc (.map #[] 0)).alloc (.cells #[.slice p1 (varsT a).length c1, .slice p2 (varsT b).length c2] 111) = w8 at *
  obtain ⟨tb, htb⟩ : ∃ n, w7.heap.size = n := ⟨_, rfl⟩
  refine HCC.out.mono ?_
  rintro e w9 ⟨r3, rfl, hr3, hw9⟩
  rw [hVL] at hr3 HR2 HC HSO HFIN
  have HVL := Lib.hid hVL
  have HMT9 := Lib.hid (HMT8.out.ext hw9)
  have HE9 := Lib.hid ((HE7.out.trans HX8.out).trans hw9)
  have HUS9 := Lib.hid ((HUS3.out.ext HX8.out).ext hw9)
  obtain ⟨s9, hs9⟩ : ∃ n, w9.heap.size = n := ⟨_, rfl⟩
  have HFV9 : Hid (FiR (fun j => tb < j ∧ j < s9) w9 r3 VL) := Lib.hid (SlR.weaken hr3 (fun k hk => ⟨by have := HS8.out; omega, by rw [← hs9]; exact hk.2⟩))
  have HT9 : Hid (w4.heap.size ≤ tb ∧ tb < s9 ∧ s9 ≤ w9.heap.size) := Lib.hid ⟨by have := HS7.out; omega, by have h1 := HS8.out; have h2 := hw9.size; omega, by omega⟩
  have HNF9 : Hid (∀ k, tb ≤ k → k < s9 → ¬ Fb bv bn bk1 k) := Lib.hid (fun k h1 h2 h => by have := HNF7.out k h; omega)
  obtain ⟨p3, c3, hp3⟩ := FiR.shape HFV9.out
  subst hp3
  have HTB9 : Hid (MpR (fun s : ByteArray => Value.string s) w9 tb ((tbOf (VL.take 0)).map fun x => (x.1.1, Value.agg (beEnc x).toArray))) := Lib.hid (by rw [← htb]; exact HMT9.out)
  have hR := HR2.out
  cases hav : acV T F st1 VL with
  | none => rw [hav] at hR; cases hR
  | some q =>
  obtain ⟨sa, oka⟩ := q
  rw [hav] at hR
  have HR3 := Lib.hid hR
  have HAV0 : Hid (acV T F st1 (VL.drop 0) = some (sa, oka)) := Lib.hid hav
  rw [htb]
  clear hw9 hs9 htb hVL hr3 HX8 HCC HMT8 HMT9 HF17 HF27 HUS3 HE7 HR2 hR hav HNF7 HS7 HS8 hmm
  go_wp2_with fail
  go_loopg [50] VL.length (fun gk iv wr => ∃ (k : Nat) (stk : St) (bkk : List Nat), iv = .int .i64 (k : Int) ∧ gk = VL.length - k ∧ k ≤ VL.length ∧ Hid (Us' T ad S 121 108 bv bn ub [] bkk stk w4 wr) ∧ Hid (acV T F stk (VL.drop k) = some (sa, oka)) ∧ Hid (∀ k, tb ≤ k → k < s9 → ¬ Fb bv bn bkk k) ∧ Hid (FiR (fun j => tb < j ∧ j < s9) wr (.slice p3 VL.length c3) VL) ∧ Hid (MpR (fun s : ByteArray => Value.string s) wr tb ((tbOf (VL.take k)).map fun x => (x.1.1, Value.agg (beEnc x).toArray))) ∧ Hid (s9 ≤ wr.heap.size))
  case atStart => exact ⟨0, _, _, rfl, rfl, Nat.zero_le _, HUS9, HAV0, HNF9, HFV9, HTB9, Lib.hid HT9.out.2.2⟩
  case round =>
    clear HUS9 HAV0 HNF9 HFV9 HTB9 HE9
    obtain ⟨k, stk, bkk, rfl, rfl, hk, HU, HAV, HNF, HFV, HMT, HSZ⟩ := hrel
    have HXF := Lib.hid (HFX.out _ HU.out.upd)
    by_cases hlt : k < VL.length
    · have HUL : Hid (∀ k, Fb bv bn bkk k → k < wr.heap.size) := Lib.hid (fun k hk => HU.out.ur.us.lt k hk)
      obtain ⟨g, off, hp3, hat⟩ := FiR.at_ HFV.out (by omega)
      subst hp3
      obtain ⟨q0, q1⟩ := hat k hlt
      have hvm := vg_mem' hlt
      have htk := take_vg VL k hlt
      have hav := HAV.out
      rw [drop_vg VL k hlt] at hav
      obtain ⟨v, hv⟩ : ∃ v, vg VL k = v := ⟨_, rfl⟩
      rw [hv] at q0 q1 hvm htk hav
      obtain ⟨nm, so⟩ := v
      simp only at q0 q1
      have HSO1 : Hid (so ≠ nul) := Lib.hid (HSO.out _ hvm)
      unfold acV at hav
      simp only at hav
      cases hvf : varF F stk nm so with
      | none => rw [hvf] at hav; cases hav
      | some q =>
      obtain ⟨st1', c⟩ := q
      rw [hvf] at hav
      simp only at hav
      cases hag : acG T F st1' c with
      | none => rw [hag] at hav; cases hav
      | some q =>
      obtain ⟨st2', b2⟩ := q
      rw [hag] at hav
      have HAV1 := Lib.hid hav
      have HAG := Lib.hid hag
      have HTK := Lib.hid htk
      have hxA := ((Upd.refl (fun _ => False) wr).alloc (.cells #[.string nm, .string so] 116)).alloc (.cells #[.string nm, .string so, .slice none 0 0] 24)
      have hB14 := allocOld (alloc0 wr (.cells #[.string nm, .string so] 116)) (.cells #[.string nm, .string so, .slice none 0 0] 24)
      have hB15 := alloc_at (wr.alloc (.cells #[.string nm, .string so] 116)) (.cells #[.string nm, .string so, .slice none 0 0] 24) (n := wr.heap.size + 1) (by simp)
      have hsA : ((wr.alloc (.cells #[.string nm, .string so] 116)).alloc (.cells #[.string nm, .string so, .slice none 0 0] 24)).heap.size = wr.heap.size + 2 := by simp
      have HUA := Lib.hid (HU.out.ext hxA)
      have HCL := Lib.hid (clsv_x F c (wr.heap.size + 1) 0 nm so none 0 0 HUA.out.ur (cellRow hB15 0 _ rfl) (cellRow hB15 1 _ rfl) (cellRow hB15 2 _ rfl) (fun h => by have := HUL.out _ h; omega) HSO1.out hvf)
      have HB14 := Lib.hid hB14
      have HB15 := Lib.hid hB15
      have HSA2 := Lib.hid hsA
      have HXA := Lib.hid hxA
      have z0 : (0 : Int) ≤ (k : Int) := by omega
      have z1 : (k : Int) < (VL.length : Int) := by omega
      have z2 : decide ((k : Int) < (VL.length : Int)) = true := decide_eq_true z1
      have z2' : decide (k < VL.length) = true := decide_eq_true hlt
      clear hat hvm htk hav hv hvf hag hxA hB14 hB15 hsA
      go_wp2_with fail
      generalize (wr.alloc (.cells #[.string nm, .string so] 116)).alloc (.cells #[.string nm, .string so, .slice none 0 0] 24) = wA at *
      clear q0 q1
      obtain ⟨nA, hnA⟩ : ∃ n, wr.heap.size = n := ⟨_, rfl⟩
      rw [hnA] at HCL HB14 HB15 HSA2 HUL ⊢
      refine HCL.out.mono ?_
      rintro e wB ⟨bkB, rfl, huB⟩
      have HUB := Lib.hid (HUA.out.trans huB)
      have HAC := Lib.hid (acy_x HTB.out F bkB st1' st2' wB c b2 HUB.out.ur HAG.out)
      have HPB := Lib.hid huB
      clear huB HCL
      go_wp2_with fail
      refine HAC.out.mono ?_
      rintro e wC ⟨rfl, bkC, huC⟩
      have HPC := Lib.hid (HPB.out.trans huC)
      have HUC := Lib.hid (HUA.out.trans HPC.out)
      clear huC HAC HPB
      have hav := HAV1.out
      have HXFC := Lib.hid (HFX.out _ HUC.out.upd)
      cases b2 with
      | false =>
        simp only [Option.some.injEq, Prod.mk.injEq] at hav
        obtain ⟨rfl, rfl⟩ := hav
        have hR := HR3.out
        simp only at hR
        have hRn : R = none := by injection hR with h; exact h.symm
        subst hRn
        go_wp2_with fail
        go_ret2
        exact ⟨rfl, HXFC.out⟩
      | true =>
      simp only at hav
      have HAV2 := Lib.hid hav
      have hnf : ∀ k, Fb bv bn bkk k → k < nA := HUL.out
      have hB14 := HPC.out.upd.heap HB14.out (fun h => by have := hnf _ h; omega)
      have hB15 := HPC.out.upd.heap HB15.out (fun h => by have := hnf _ h; omega)
      have HNFC : Hid (∀ k, tb ≤ k → k < s9 → ¬ Fb bv bn bkC k) := Lib.hid (fun k h1 h2 h => by
        rcases h with h | h | h
        · exact HNF.out k h1 h2 (.inl h)
        · exact HNF.out k h1 h2 (.inr (.inl h))
        · rcases HPC.out.new k h with h | h
          · exact HNF.out k h1 h2 (.inr (.inr h))
          · have := HSA2.out; have := HSZ.out; omega)
      have hmtC : MpR (fun s : ByteArray => Value.string s) wC tb ((tbOf (VL.take k)).map fun x => (x.1.1, Value.agg (beEnc x).toArray)) := (HMT.out.ext HXA.out).kept HPC.out.upd (HNF.out tb (Nat.le_refl _) HT9.out.2.1)
      have HFVC : Hid (FiR (fun j => tb < j ∧ j < s9) wC (.slice (some ⟨g, off, none⟩) VL.length c3) VL) := Lib.hid (SlR.kept (FiR.ext HFV.out HXA.out) HPC.out.upd (fun j hj => HNF.out j (by omega) hj.2))
      have HSZC : Hid (s9 ≤ wC.heap.size) := Lib.hid (by have h1 := HPC.out.upd.size; have := HSA2.out; have := HSZ.out; omega)
      obtain ⟨W2, hput0, hmp2, hu2⟩ := MpR.put (P := Tryz.prog) (t := 98) (strKey Tryz.underlying9) Tryz.underlying98 hmtC nm (.agg #[.string nm, .string so, .string nm, .string so, .slice none 0 0])
      have hput : (Instr.mapUpdate 98 (.map (some tb)) (.string nm) (.agg #[.string nm, .string so, .string nm, .string so, .slice none 0 0])).run Tryz.prog wC = .ok () W2 := hput0
      have HMT2 : Hid (MpR (fun s : ByteArray => Value.string s) W2 tb ((tbOf (VL.take (k + 1))).map fun x => (x.1.1, Value.agg (beEnc x).toArray))) := Lib.hid (by
        rw [HTK.out, tbOf_snoc, putB_aput]
        exact hmp2)
      have htl : w4.heap.size ≤ tb := HT9.out.1
      have HU2 : Hid (Us' T ad S 121 108 bv bn ub [] bkC st2' w4 W2) := Lib.hid (Us'.outside HUC.out hu2 (fun j hj e => by
        rcases hj with hj | hj | hj
        · exact HNFC.out tb (Nat.le_refl _) HT9.out.2.1 (by rw [← e]; exact hj)
        · have := HSS.out j hj; have := HS4.out; omega
        · have := HS4.out; omega) (fun j hj e => by omega))
      have HFV2 : Hid (FiR (fun j => tb < j ∧ j < s9) W2 (.slice (some ⟨g, off, none⟩) VL.length c3) VL) := Lib.hid (SlR.kept HFVC.out hu2 (fun j hj e => by omega))
      have HSZ2 : Hid (s9 ≤ W2.heap.size) := Lib.hid (Nat.le_trans HSZC.out hu2.size)
      have b0 := cellRow hB14 0 (.string nm) rfl
      have b1 := cellRow hB14 1 (.string so) rfl
      have d0 := cellRow hB15 0 (.string nm) rfl
      have d1 := cellRow hB15 1 (.string so) rfl
      have d2 := cellRow hB15 2 (.slice none 0 0) rfl
      clear hav hnf hB14 hB15 hmtC hput0 hmp2 hu2 HXFC HUA HUB HPC HUC
      go_wp2_with fail
      go_roundg (VL.length - (k + 1))
      case measure => omega
      case rel => exact ⟨k + 1, _, _, by go_num, rfl, by omega, HU2, HAV2, HNFC, HFV2, HMT2, HSZ2⟩
    · obtain rfl : k = VL.length := by omega
      have z2 : decide ((VL.length : Int) < (VL.length : Int)) = false := decide_eq_false (by omega)
      have hav := HAV.out
      rw [List.drop_length] at hav
      unfold acV at hav
      simp only [Option.some.injEq, Prod.mk.injEq] at hav
      obtain ⟨rfl, rfl⟩ := hav
      have hR := HR3.out
      simp only at hR
      cases hcl : classF T F stk 0 with
      | none => rw [hcl] at hR; cases hR
      | some q =>
      obtain ⟨st3, c⟩ := q
      rw [hcl] at hR
      simp only at hR
      cases hag : acG T F st3 c with
      | none => rw [hag] at hR; cases hR
      | some q =>
      obtain ⟨st4, b2⟩ := q
      rw [hag] at hR
      have HR4 := Lib.hid hR
      have HAG := Lib.hid hag
      have HCL := Lib.hid (cls_x F 0 c HU.out.ur hcl)
      rw [HAD.out.1] at HCL
      have HTV : Hid (MpR (fun s : ByteArray => Value.string s) wr tb ((tbOf VL).map fun x => (x.1.1, Value.agg (beEnc x).toArray))) := Lib.hid (by have := HMT.out; rw [List.take_length] at this; exact this)
      clear hR hcl hag HMT
      go_wp2_with fail
      refine HCL.out.mono ?_
      rintro e wB ⟨bkB, rfl, huB⟩
      have HUB := Lib.hid (HU.out.trans huB)
      have HAC := Lib.hid (acy_x HTB.out F bkB st3 st4 wB c b2 HUB.out.ur HAG.out)
      have HPB := Lib.hid huB
      clear huB HCL
      go_wp2_with fail
      refine HAC.out.mono ?_
      rintro e wC ⟨rfl, bkC, huC⟩
      have HPC := Lib.hid (HPB.out.trans huC)
      have HUC := Lib.hid (HU.out.trans HPC.out)
      clear huC HAC HPB HUB
      have HXFC := Lib.hid (HFX.out _ HUC.out.upd)
      have hR := HR4.out
      cases b2 with
      | false =>
        simp only at hR
        have hRn : R = none := by injection hR with h; exact h.symm
        subst hRn
        go_wp2_with fail
        go_ret2
        exact ⟨rfl, HXFC.out⟩
      | true =>
      simp only at hR
      obtain rfl : R = some st4 := by injection hR with h; exact h.symm
      have HFI := Lib.hid (HFIN.out st4 rfl)
      have HNFC : Hid (∀ k, tb ≤ k → k < s9 → ¬ Fb bv bn bkC k) := Lib.hid (fun k h1 h2 h => by
        rcases h with h | h | h
        · exact HNF.out k h1 h2 (.inl h)
        · exact HNF.out k h1 h2 (.inr (.inl h))
        · rcases HPC.out.new k h with h | h
          · exact HNF.out k h1 h2 (.inr (.inr h))
          · have := HSZ.out; omega)
      have HTC := Lib.hid (HTV.out.kept HPC.out.upd (HNF.out tb (Nat.le_refl _) HT9.out.2.1))
      have HSZC : Hid (s9 ≤ wC.heap.size) := Lib.hid (Nat.le_trans HSZ.out HPC.out.upd.size)
      have HLW : Hid (∀ j, w4.heap.size ≤ j → j < wC.heap.size → w4.heap.size ≤ j) := Lib.hid (fun _ h _ => h)
      clear hR HR4 HPC HU HXF HTV HNF HSZ HAV HFV
      obtain ⟨es, clock, hb, hes, hbp, hbc⟩ := HTC.out
      have HSP := Lib.hid (tbOf_spec VL HC.out)
      have HND : Hid ((es.toList.map (·.born)).Nodup) := Lib.hid (by
        rw [List.Nodup, List.pairwise_map]
        exact hbp.imp (fun h e => by omega))
      have HBP := Lib.hid hbp
      have HBC := Lib.hid hbc
      have HES := Lib.hid hes
      have HNE : Hid (NmE es.toList ((tbOf VL).map fun x => x.1.1)) := Lib.hid (by
        have := NmE.of hes
        rw [List.map_map] at this
        exact this)
      have hrg := run_range_map (P := Tryz.prog) wC 98 9 93 tb es clock Tryz.underlying98 hb
      have hblt : tb < wC.heap.size := (Array.getElem?_eq_some_iff.1 hb).1
      have HBL := Lib.hid hblt
      have HB0 := Lib.hid (allocOld hb (.mapIter (some tb) clock #[] clock))
      have HR0 := Lib.hid (alloc0 wC (.mapIter (some tb) clock #[] clock))
      have hE0 := (Upd.refl (fun _ => False) wC).alloc (.mapIter (some tb) clock #[] clock)
      have HU0 := Lib.hid (HUC.out.ext hE0)
      have HZ0 : Hid (wC.heap.size + 1 ≤ (wC.alloc (.mapIter (some tb) clock #[] clock)).heap.size) := Lib.hid (by simp)
      have HFR : Hid (∀ j, wC.heap.size ≤ j → ¬ (Fb bv bn bkC j ∨ S j ∨ j = ub) ∧ w4.heap.size ≤ j ∧ tb < j) := Lib.hid (fun j hj => by
        have h1 := HUC.out.upd.size
        have h2 := HS4.out
        refine ⟨?_, by omega, by omega⟩
        rintro (h | h | h)
        · have := HUC.out.ur.us.lt j h; omega
        · have := HSS.out j h; omega
        · omega)
      clear hes hbp hbc hb hblt hE0 HTC HUC HXFC
      go_wp2_with fail
      try go_frame
      generalize wC.alloc (.mapIter (some tb) clock #[] clock) = w7' at *
      clear hrg
      obtain ⟨ri, hri⟩ : ∃ n, wC.heap.size = n := ⟨_, rfl⟩
      rw [hri] at HR0 HZ0 HBL HFR ⊢
      clear hri
      go_loopg [] (leftOf es #[]).size (fun gk wr => ∃ (D : List By) (seen : Array Nat), gk = (leftOf es seen).size ∧ Hid (wr.heap[ri]? = some (.mapIter (some tb) clock seen clock)) ∧ Hid (wr.heap[tb]? = some (.map es clock)) ∧ Hid (Us' T ad S 121 108 bv bn ub [] bkC st4 w4 wr) ∧ Hid (ri + 1 ≤ wr.heap.size) ∧ Hid (SnI es.toList seen D))
      case atStart => exact ⟨[], #[], rfl, HR0, HB0, HU0, HZ0, Lib.hid (SnI.start _)⟩
      case round =>
        clear HR0 HB0 HU0 HZ0
        obtain ⟨D, seen, rfl, HRI, HBB, HU, HSR, HV⟩ := hrel
        rcases run_next_at (P := Tryz.prog) wr 0 ri tb clock clock seen es clock HRI.out HBB.out (fun x hx => HBC.out x hx) (Nat.le_refl _) with ⟨h0, hrun⟩ | ⟨e, he, w1, hw1, hrun⟩
        · have hnx : ∀ ty, (Instr.next (.pointer (some ⟨ri, 0, none⟩)) false ty).run Tryz.prog wr = _ := fun _ => hrun
          clear h0 HRI HV
          have hrg := run_range_map (P := Tryz.prog) wr 98 9 93 tb es clock Tryz.underlying98 HBB.out
          have HB0 := Lib.hid (allocOld HBB.out (.mapIter (some tb) clock #[] clock))
          have HR0 := Lib.hid (alloc0 wr (.mapIter (some tb) clock #[] clock))
          have hE0 := (Upd.refl (fun _ => False) wr).alloc (.mapIter (some tb) clock #[] clock)
          have HU0 := Lib.hid (HU.out.ext hE0)
          have HZ0 : Hid (wr.heap.size + 1 ≤ (wr.alloc (.mapIter (some tb) clock #[] clock)).heap.size) := Lib.hid (by simp)
          have HFS : Hid (∀ j, wr.heap.size ≤ j → ¬ (Fb bv bn bkC j ∨ S j ∨ j = ub) ∧ w4.heap.size ≤ j ∧ tb < j ∧ w.heap.size ≤ j) := Lib.hid (fun j hj => by
            have h1 := HSR.out
            obtain ⟨h2, h3, h4⟩ := HFR.out j (by omega)
            have h5 := HS4.out
            exact ⟨h2, h3, h4, by omega⟩)
          have HJ0 : Hid (∀ x ∈ tbOf VL, ∃ v ∈ VL, x.1.1 = v.1 ∧ ((x.1.1 ∉ ([] : List By) ∧ x = vaBe v) ∨ (x.1.1 ∈ ([] : List By) ∧ x.1 = (v.1, v.2, τ v) ∧ TlR (fun j => wr.heap.size + 1 ≤ j ∧ j < (wr.alloc (.mapIter (some tb) clock #[] clock)).heap.size) (wr.alloc (.mapIter (some tb) clock #[] clock)) (τ v).kids (beV x)))) := Lib.hid (fun x hx => by
            obtain ⟨v, hv, rfl⟩ := (HSP.out.2 x).1 hx
            exact ⟨v, hv, rfl, .inl ⟨by simp, rfl⟩⟩)
          have HE0 : Hid (es.toList.map (fun e => (e.key, e.val)) = (tbOf VL).map (fun x => (Value.string x.1.1, Value.agg (beEnc x).toArray))) := Lib.hid (by
            have := HES.out
            rw [List.map_map] at this
            exact this)
          clear hE0 HU HBB HFR HBL HSR hrun
          go_wp2_with fail
          try go_frame
          generalize wr.alloc (.mapIter (some tb) clock #[] clock) = w8' at *
          clear hrg hnx
          obtain ⟨rj, hrj⟩ : ∃ n, wr.heap.size = n := ⟨_, rfl⟩
          rw [hrj] at HR0 HZ0 HFS HJ0 ⊢
          clear hrj
          go_loopg [] (leftOf es #[]).size (fun gk wr => ∃ (D : List By) (seen : Array Nat) (es' : Array MapEntry) (lk : List Be), gk = (leftOf es' seen).size ∧ Hid (wr.heap[rj]? = some (.mapIter (some tb) clock seen clock)) ∧ Hid (wr.heap[tb]? = some (.map es' clock)) ∧ Hid (Us' T ad S 121 108 bv bn ub [] bkC st4 w4 wr) ∧ Hid (rj + 1 ≤ wr.heap.size) ∧ Hid (SnI es'.toList seen D) ∧ Hid (es'.toList.map (fun e => (e.key, e.val)) = lk.map (fun x => (Value.string x.1.1, Value.agg (beEnc x).toArray))) ∧ Hid (es'.toList.map (·.born) = es.toList.map (·.born)) ∧ Hid (lk.map (fun x => x.1.1) = (tbOf VL).map fun x => x.1.1) ∧ Hid (∀ x ∈ lk, ∃ v ∈ VL, x.1.1 = v.1 ∧ ((x.1.1 ∉ D ∧ x = vaBe v) ∨ (x.1.1 ∈ D ∧ x.1 = (v.1, v.2, τ v) ∧ TlR (fun j => rj + 1 ≤ j ∧ j < wr.heap.size) wr (τ v).kids (beV x)))))
          case atStart => exact ⟨[], #[], es, tbOf VL, rfl, HR0, HB0, HU0, HZ0, Lib.hid (SnI.start _), HE0, Lib.hid rfl, Lib.hid rfl, HJ0⟩
          case round =>
            clear HR0 HB0 HU0 HZ0 HJ0 HE0
            obtain ⟨D, seen, es', lk, rfl, HRI, HBB, HU, HSR, HV, HEK, HBO, HNK, HJ⟩ := hrel
            have HND' : Hid ((es'.toList.map (·.born)).Nodup) := Lib.hid (by rw [HBO.out]; exact HND.out)
            have HBC' : Hid (∀ x ∈ es'.toList, x.born < clock) := Lib.hid (fun x hx => by
              have h1 : x.born ∈ es'.toList.map (·.born) := List.mem_map.2 ⟨x, hx, rfl⟩
              rw [HBO.out] at h1
              obtain ⟨y, hy, e⟩ := List.mem_map.1 h1
              rw [← e]
              exact HBC.out y hy)
            have HNE' : Hid (NmE es'.toList (lk.map fun x => x.1.1)) := Lib.hid (by
              have h1 := congrArg (List.map Prod.fst) HEK.out
              rw [List.map_map, List.map_map] at h1
              unfold NmE
              rw [List.map_map]
              exact h1)
            have HNN' : Hid ((lk.map fun x => x.1.1).Nodup) := Lib.hid (by rw [HNK.out]; exact HSP.out.1)
            rcases run_next_at (P := Tryz.prog) wr 0 rj tb clock clock seen es' clock HRI.out HBB.out (fun x hx => HBC'.out x hx) (Nat.le_refl _) with ⟨h0, hrun⟩ | ⟨e, he, w1, hw1, hrun⟩
            · have hnx : ∀ ty, (Instr.next (.pointer (some ⟨rj, 0, none⟩)) false ty).run Tryz.prog wr = _ := fun _ => hrun
              have hfin := HV.out.fin HNE'.out h0
              have hall : ∀ x ∈ lk, ∃ v ∈ VL, x.1.1 = v.1 ∧ x.1 = (v.1, v.2, τ v) ∧ TlR (fun j => rj + 1 ≤ j ∧ j < wr.heap.size) wr (τ v).kids (beV x) := fun x hx => by
                obtain ⟨v, hv, h1, h2⟩ := HJ.out x hx
                have hd : x.1.1 ∈ D := (hfin _).2 (List.mem_map.2 ⟨x, hx, rfl⟩)
                rcases h2 with ⟨h2, _⟩ | ⟨_, h2, h3⟩
                · exact absurd hd h2
                · exact ⟨v, hv, h1, h2, h3⟩
              have htb : TbR (fun j => rj + 1 ≤ j ∧ j < wr.heap.size) wr tb lk := ⟨⟨es', clock, HBB.out, by rw [HEK.out, List.map_map]; rfl, by
                have h1 : (es'.toList.map (·.born)).Pairwise (· < ·) := by rw [HBO.out]; exact List.pairwise_map.2 HBP.out
                exact List.pairwise_map.1 h1, HBC'.out⟩, HNN'.out, fun x hx => by
                obtain ⟨v, hv, h1, h2, h3⟩ := hall x hx
                rw [h2]
                exact h3⟩
              have hkl : lk.length ≤ 1000000 := by
                have h1 := congrArg List.length HNK.out
                rw [List.length_map, List.length_map] at h1
                have h2 : ((tbOf VL).map fun x => x.1.1).length ≤ (VL.map (·.1)).length := HSP.out.1.length_le_of_subset (fun n hn => by
                  obtain ⟨x, hx, e⟩ := List.mem_map.1 hn
                  obtain ⟨v, hv, e2⟩ := (HSP.out.2 x).1 hx
                  rw [← e, e2]
                  exact List.mem_map.2 ⟨v, hv, rfl⟩)
                rw [List.length_map, List.length_map] at h2
                omega
              have HBI := Lib.hid (bindings_x lk tb _ wr htb (fun k hk => hk.2) (fun x hx => by
                obtain ⟨v, hv, h1, h2, h3⟩ := hall x hx
                obtain ⟨_, _, _, _, _, _, _, _, hts⟩ := HFI.out v hv
                rw [h2]
                exact hts) hkl)
              have HM : Hid (∀ f, (∃ x ∈ lk, x.1 = f) ↔ ∃ v ∈ VL, f = (v.1, v.2, τ v)) := Lib.hid (fun f => by
                constructor
                · rintro ⟨x, hx, e⟩
                  obtain ⟨v, hv, h1, h2, _⟩ := hall x hx
                  exact ⟨v, hv, by rw [← e, h2]⟩
                · rintro ⟨v, hv, e⟩
                  have h1 : v.1 ∈ lk.map fun x => x.1.1 := by
                    rw [HNK.out]
                    exact List.mem_map.2 ⟨vaBe v, (HSP.out.2 _).2 ⟨v, hv, rfl⟩, rfl⟩
                  obtain ⟨x, hx, e2⟩ := List.mem_map.1 h1
                  obtain ⟨u, hu, h3, h4, _⟩ := hall x hx
                  have : u = v := HC.out u hu v hv (by rw [← h3, e2])
                  rw [this] at h4
                  exact ⟨x, hx, by rw [h4, e]⟩)
              have HXR := Lib.hid (HFX.out _ HU.out.upd)
              clear hfin hall htb hkl h0
              go_wp2_with fail
              refine HBI.out.mono ?_
              rintro e w9' ⟨r, L, rfl, hbn, has, hmem, hw9⟩
              obtain ⟨ra, rc, hra⟩ := hbn.shape
              subst hra
              have HRES := Lib.hid (And.intro hbn (And.intro has (And.intro hmem hw9)))
              clear hbn has hmem hw9 hrun hnx HBI
              go_wp2_with fail
              go_ret2
              have hrs := HRES.out
              have hws := HXR.out.size
              refine ⟨.inr ⟨(fun h => by cases h), _, L, rfl, hrs.1.weaken (fun k hk => ⟨by omega, hk.2⟩) (fun k hk => ⟨by omega, hk.2⟩), hrs.2.1, ?_⟩, HXR.out.trans hrs.2.2.2⟩
              have hl := fun f => (hrs.2.2.1 f).trans (and_congr_left (fun _ => HM.out f))
              rw [← HVL.out] at hl
              simpa using hl
            · have hml := mem_left he
              obtain ⟨x, hx, hkv⟩ : ∃ x ∈ lk, (Value.string x.1.1, Value.agg (beEnc x).toArray) = (e.key, e.val) := by
                have h1 : (e.key, e.val) ∈ es'.toList.map (fun e => (e.key, e.val)) := List.mem_map.2 ⟨e, hml.1, rfl⟩
                rw [HEK.out] at h1
                obtain ⟨x, hx, h2⟩ := List.mem_map.1 h1
                exact ⟨x, hx, h2⟩
              have hk0 : e.key = .string x.1.1 := by injection hkv with h1 _; exact h1.symm
              have hnd : x.1.1 ∉ D := fun hd => by
                obtain ⟨e2, he2, hk2, hs2⟩ := HV.out.sub _ hd
                have hee : e2 = e := HNE'.out.uniq HNN'.out he2 hml.1 (by rw [hk2, hk0])
                rw [hee, hml.2] at hs2
                cases hs2
              obtain ⟨v, hvm, hxv⟩ : ∃ v ∈ VL, x = vaBe v := by
                obtain ⟨v, hv, h1, h2⟩ := HJ.out x hx
                rcases h2 with ⟨_, h2⟩ | ⟨h2, _⟩
                · exact ⟨v, hv, h2⟩
                · exact absurd h2 hnd
              subst hxv
              obtain ⟨nm, so⟩ := v
              have hk : e.key = .string nm := hk0
              have hvv : e.val = .agg #[.string nm, .string so, .string nm, .string so, .slice none 0 0] := by injection hkv with _ h1; exact h1.symm
              have hso1 := HSO.out _ hvm
              obtain ⟨c, C, hfd, hvf, hcs, hz1, hz2, hvg, hts⟩ := HFI.out _ hvm
              have hrw : w1.heap[rj]? = some (.mapIter (some tb) clock seen clock) := by rcases hw1 with h | h <;> (rw [h]; exact HRI.out)
              have hu1 : Upd (fun j => j = rj) wr (Go.ChangeMaps.setBlock w1 rj (.mapIter (some tb) clock (seen.push e.born) clock)) := by
                have := upd_setBlock w1 rj (.mapIter (some tb) clock (seen.push e.born) clock)
                rcases hw1 with h | h
                · rw [h] at this ⊢; exact this
                · rw [h] at this ⊢; exact this.ofDrew
              have hr2 := heap_setBlock (o' := .mapIter (some tb) clock (seen.push e.born) clock) hrw
              rw [hk, hvv] at hrun
              generalize Go.ChangeMaps.setBlock w1 rj (.mapIter (some tb) clock (seen.push e.born) clock) = wN at *
              have htj := (HFS.out rj (Nat.le_refl _))
              have HBN := Lib.hid (hu1.heap HBB.out (by have := htj.2.2.1; omega))
              have hen := run_entry_at (P := Tryz.prog) wN rj tb clock seen es' clock e hr2 HBN.out hml.1 HND'.out
              rw [hk, hvv] at hen
              have hnx : ∀ ty, (Instr.next (.pointer (some ⟨rj, 0, none⟩)) false ty).run Tryz.prog wr = _ := fun _ => hrun
              have HUN : Hid (Us' T ad S 121 108 bv bn ub [] bkC st4 w4 wN) := Lib.hid (Us'.outside HU.out hu1 (fun j hj e => htj.1 (by rw [← e]; exact hj)) (fun j hj e => by have := htj.2.1; omega))
              have HRN := Lib.hid hr2
              have HVN := Lib.hid (HV.out.next HNE'.out HNN'.out HND'.out hml.1 hml.2 hk)
              have HLT := Lib.hid (left_shrinks es' seen e he)
              have HSN : Hid (rj + 1 ≤ wN.heap.size) := Lib.hid (Nat.le_trans HSR.out hu1.size)
              have HJN : Hid (∀ x ∈ lk, ∃ v ∈ VL, x.1.1 = v.1 ∧ ((x.1.1 ∉ D ∧ x = vaBe v) ∨ (x.1.1 ∈ D ∧ x.1 = (v.1, v.2, τ v) ∧ TlR (fun j => rj + 1 ≤ j ∧ j < wN.heap.size) wN (τ v).kids (beV x)))) := Lib.hid (fun x hx => by
                obtain ⟨v, hv, h1, h2⟩ := HJ.out x hx
                refine ⟨v, hv, h1, h2.imp id (fun ⟨a, b, c⟩ => ⟨a, b, (c.kept hu1 (fun j hj e => by omega)).weaken (fun j hj => ⟨hj.1, Nat.lt_of_lt_of_le hj.2 hu1.size⟩)⟩)⟩)
              have hb5 := alloc0 wN (.cells #[.string nm, .string so, .string nm, .string so, .slice none 0 0] 93)
              have hX5 := (Upd.refl (fun _ => False) wN).alloc (.cells #[.string nm, .string so, .string nm, .string so, .slice none 0 0] 93)
              have HUX := Lib.hid (HUN.out.ext hX5)
              have HCL := Lib.hid (clsv_same F c wN.heap.size 2 nm so none 0 0 HUX.out.ur (cellRow hb5 2 _ rfl) (cellRow hb5 3 _ rfl) (cellRow hb5 4 _ rfl) (fun h => by have := HUN.out.ur.us.lt _ h; omega) hso1 hfd hvf).2
              have HX5 := Lib.hid hX5
              have HB5 := Lib.hid hb5
              have HVG := Lib.hid hvg
              have HXM := Lib.hid hx
              have HVM := Lib.hid hvm
              have HND1 := Lib.hid hnd
              clear hml hk hvv hrw hu1 hr2 he hw1 hkv hb5 hX5 hso1 hfd hvf hcs hz1 hz2 hvg hts hvm hx hk0 hnd htj
              go_wp2_with fail
              refine HCL.out.mono ?_
              rintro e2 w5 ⟨rfl, hw5⟩
              have HU5 := Lib.hid (HUX.out.ext hw5)
              have HX6 := Lib.hid (HX5.out.trans hw5)
              have HB55 := Lib.hid (hw5.heap HB5.out (fun h => h))
              have HVX := Lib.hid (val_x HTB.out F w5 c (τ (nm, so)) HU5.out.ur HVG.out)
              clear hw5 hnx hrun hen HCL
              go_wp2_with fail
              refine HVX.out.mono ?_
              rintro e3 w6 ⟨r5, B5, rfl, hT5, hb5, hw6⟩
              obtain ⟨ya, yc, hry⟩ := TlO.shape hT5
              subst hry
              obtain ⟨t5, ht5⟩ : ∃ t, τ (nm, so) = t := ⟨_, rfl⟩
              rw [ht5] at hT5
              have HT5Q := Lib.hid ht5
              have HU6 := Lib.hid (HU5.out.ext hw6)
              have HX7 := Lib.hid (HX6.out.trans hw6)
              have HT6 := Lib.hid hT5.read
              have HB6 : Hid (∀ j, B5 j → wN.heap.size < j ∧ j < w6.heap.size) := Lib.hid (fun j hj => ⟨by have h1 := (hb5 j hj).1; have h3 := (Array.getElem?_eq_some_iff.1 HB55.out).1; omega, (hb5 j hj).2⟩)
              have hb6 := hw6.heap HB55.out (fun h => h)
              have HBX6 := Lib.hid hb6
              dsimp only [tV]
              rw [ht5]
              have b0 := cellRow hb6 0 (.string nm) rfl
              have b1 := cellRow hb6 1 (.string so) rfl
              have b2 := cellRow hb6 2 (.string nm) rfl
              have b3 := cellRow hb6 3 (.string so) rfl
              have b4 := cellRow hb6 4 (.slice none 0 0) rfl
              have fb := fun i => frozenRow hb6 i
              have hb7 := setBlock (setBlock (setBlock hb6 2 (.string t5.name)) 3 (.string t5.sort)) 4 (.slice ya t5.kids.length yc)
              have hu7 : Upd (fun j => j = wN.heap.size) w6 (((w6.setCell ⟨wN.heap.size, 2, none⟩ (.string t5.name)).setCell ⟨wN.heap.size, 3, none⟩ (.string t5.sort)).setCell ⟨wN.heap.size, 4, none⟩ (.slice ya t5.kids.length yc)) :=
                (((Upd.refl (fun j => j = wN.heap.size) w6).setCell (p := ⟨wN.heap.size, 2, none⟩) (.inl rfl) _).setCell (p := ⟨wN.heap.size, 3, none⟩) (.inl rfl) _).setCell (p := ⟨wN.heap.size, 4, none⟩) (.inl rfl) _
              have HB7 : Hid ((((w6.setCell ⟨wN.heap.size, 2, none⟩ (.string t5.name)).setCell ⟨wN.heap.size, 3, none⟩ (.string t5.sort)).setCell ⟨wN.heap.size, 4, none⟩ (.slice ya t5.kids.length yc)).heap[wN.heap.size]? = some (.cells #[.string nm, .string so, .string t5.name, .string t5.sort, .slice ya t5.kids.length yc] 93 (0, 0))) := Lib.hid (by simpa using hb7)
              have HU7W := Lib.hid hu7
              clear hT5 hb5 hw6 hb6 hb7 hu7 HVX ht5
              go_upto_region 30 with fail
              generalize (((w6.setCell ⟨wN.heap.size, 2, none⟩ (.string t5.name)).setCell ⟨wN.heap.size, 3, none⟩ (.string t5.sort)).setCell ⟨wN.heap.size, 4, none⟩ (.slice ya t5.kids.length yc)) = w7x at *
              clear b0 b1 b2 b3 b4 fb
              obtain ⟨nb, hnb⟩ : ∃ n, wN.heap.size = n := ⟨_, rfl⟩
              rw [hnb] at HB7 HU7W HB6 HJN HSN ⊢
              have hfnb := HFS.out nb (by have := HSN.out; omega)
              have hftb := (HFS.out rj (Nat.le_refl _)).2.2.1
              have HM7 := HU7W.out.heap (HX7.out.heap HBN.out (fun h => h)) (fun e => by have := hfnb.2.2.1; omega)
              have HR7 := HU7W.out.heap (HX7.out.heap HRN.out (fun h => h)) (fun e => by have := HSN.out; omega)
              have HU7 : Hid (Us' T ad S 121 108 bv bn ub [] bkC st4 w4 w7x) := Lib.hid (Us'.outside HU6.out HU7W.out (fun j hj e => hfnb.1 (by rw [← e]; exact hj)) (fun j hj e => by have := hfnb.2.1; omega))
              have hkin : nm ∈ (lk.map fun x => (x.1.1, Value.agg (beEnc x).toArray)).map (·.1) := by
                rw [List.map_map]
                exact List.mem_map.2 ⟨_, HXM.out, rfl⟩
              obtain ⟨W2, es2, hput0, hm2, he2, hbo2, hu2⟩ := MpR.upd (P := Tryz.prog) (t := 98) (strKey Tryz.underlying9) Tryz.underlying98 HM7 (l := lk.map fun x => (x.1.1, Value.agg (beEnc x).toArray)) (by rw [HEK.out, List.map_map]; rfl) nm (.agg #[.string nm, .string so, .string t5.name, .string t5.sort, .slice ya t5.kids.length yc]) hkin
              have hput : (Instr.mapUpdate 98 (.map (some tb)) (.string nm) (.agg #[.string nm, .string so, .string t5.name, .string t5.sort, .slice ya t5.kids.length yc])).run Tryz.prog w7x = .ok () W2 := hput0
              obtain ⟨x', hx'⟩ : ∃ x' : Be, x' = ((nm, so, t5), ya, t5.kids.length, yc) := ⟨_, rfl⟩
              have HE2 : Hid (es2.toList.map (fun e => (e.key, e.val)) = (putB lk x').map (fun x => (Value.string x.1.1, Value.agg (beEnc x).toArray))) := Lib.hid (by
                have h1 := putB_aput lk x'
                have h2 := congrArg (List.map fun p : By × Value => (Value.string p.1, p.2)) h1
                rw [List.map_map] at h2
                rw [he2, hx']
                rw [hx'] at h2
                exact h2.symm)
              have HBO2 : Hid (es2.toList.map (·.born) = es.toList.map (·.born)) := Lib.hid (by rw [hbo2]; exact HBO.out)
              have hnin : x'.1.1 ∈ lk.map fun x => x.1.1 := by rw [hx']; exact List.mem_map.2 ⟨_, HXM.out, rfl⟩
              have HNK2 : Hid ((putB lk x').map (fun x => x.1.1) = (tbOf VL).map fun x => x.1.1) := Lib.hid (by rw [putB_names_in hnin]; exact HNK.out)
              have HV2 : Hid (SnI es2.toList (seen.push e.born) (D ++ [nm])) := Lib.hid (HVN.out.alike (key_born (by
                have h1 := congrArg (List.map Prod.fst) HEK.out
                have h2 := congrArg (List.map Prod.fst) HE2.out
                rw [List.map_map, List.map_map] at h1 h2
                have h3 := congrArg (List.map Value.string) (putB_names_in hnin)
                rw [List.map_map, List.map_map] at h3
                exact h1.trans (h3.symm.trans h2.symm)) (by rw [hbo2])))
              have HLT2 : Hid ((leftOf es2 (seen.push e.born)).size < (leftOf es' seen).size) := Lib.hid (by rw [left_size hbo2]; exact HLT.out)
              have HU2 : Hid (Us' T ad S 121 108 bv bn ub [] bkC st4 w4 W2) := Lib.hid (Us'.outside HU7.out hu2 (fun j hj e => by
                rcases hj with hj | hj | hj
                · exact HNFC.out tb (Nat.le_refl _) HT9.out.2.1 (by rw [← e]; exact hj)
                · have := HSS.out j hj; have := HS4.out; have := HT9.out.1; omega
                · have := HS4.out; have := HT9.out.1; omega) (fun j hj e => by have := HT9.out.1; omega))
              have HR2' : Hid (W2.heap[rj]? = some (.mapIter (some tb) clock (seen.push e.born) clock)) := Lib.hid (hu2.heap HR7 (fun e => by omega))
              have HM2 := Lib.hid hm2
              have hsz : wN.heap.size ≤ W2.heap.size := Nat.le_trans HX7.out.size (Nat.le_trans HU7W.out.size hu2.size)
              have HS2 : Hid (rj + 1 ≤ W2.heap.size) := Lib.hid (Nat.le_trans HSN.out (by rw [← hnb]; exact hsz))
              have HJ2 : Hid (∀ x ∈ putB lk x', ∃ v ∈ VL, x.1.1 = v.1 ∧ ((x.1.1 ∉ D ++ [nm] ∧ x = vaBe v) ∨ (x.1.1 ∈ D ++ [nm] ∧ x.1 = (v.1, v.2, τ v) ∧ TlR (fun j => rj + 1 ≤ j ∧ j < W2.heap.size) W2 (τ v).kids (beV x)))) := Lib.hid (fun z hz => by
                rcases (putB_mem HNN'.out z).1 hz with e | ⟨hz1, hz2⟩
                · subst e
                  refine ⟨(nm, so), HVM.out, by rw [hx'], .inr ⟨by rw [hx']; simp, by rw [hx', HT5Q.out], ?_⟩⟩
                  rw [HT5Q.out, hx']
                  exact ((HT6.out.kept HU7W.out (fun j hj e => by have := (HB6.out j hj).1; omega)).kept hu2 (fun j hj e => by have := (HB6.out j hj).1; have := HSN.out; omega)).weaken (fun j hj => ⟨by have := (HB6.out j hj).1; have := HSN.out; omega, Nat.lt_of_lt_of_le (HB6.out j hj).2 (Nat.le_trans HU7W.out.size hu2.size)⟩)
                · obtain ⟨v, hv, h1, h2⟩ := HJN.out z hz1
                  have hzn : z.1.1 ≠ nm := fun e => hz2 (by rw [hx']; exact e)
                  refine ⟨v, hv, h1, ?_⟩
                  rcases h2 with ⟨h2, h3⟩ | ⟨h2, h3, h4⟩
                  · exact .inl ⟨by simp [h2, hzn], h3⟩
                  · exact .inr ⟨List.mem_append_left _ h2, h3, (((h4.kept HX7.out (fun _ _ h => h)).kept HU7W.out (fun j hj e => by omega)).kept hu2 (fun j hj e => by omega)).weaken (fun j hj => ⟨hj.1, by omega⟩)⟩)
              have e0 := cellRow HB7.out 0 (.string nm) rfl
              have e1 := cellRow HB7.out 1 (.string so) rfl
              have e2 := cellRow HB7.out 2 (.string t5.name) rfl
              have e3 := cellRow HB7.out 3 (.string t5.sort) rfl
              have e4 := cellRow HB7.out 4 (.slice ya t5.kids.length yc) rfl
              clear hput0 he2 hbo2 hm2 hu2 hkin hnin hsz HM7 HR7 hx' hfnb hftb hnb
              go_wp2_with fail
              have hlt := HLT2.out
              go_roundg (leftOf es2 (seen.push e.born)).size
              case measure => exact hlt
              case rel => exact ⟨D ++ [nm], _, es2, putB lk x', rfl, HR2', HM2, HU2, HS2, HV2, HE2, HBO2, HNK2, HJ2⟩
        · have hml := mem_left he
          obtain ⟨x, hx, hkv⟩ : ∃ x ∈ tbOf VL, (Value.string x.1.1, Value.agg (beEnc x).toArray) = (e.key, e.val) := by
            have h1 : (e.key, e.val) ∈ es.toList.map (fun e => (e.key, e.val)) := List.mem_map.2 ⟨e, hml.1, rfl⟩
            rw [HES.out, List.map_map] at h1
            obtain ⟨x, hx, h2⟩ := List.mem_map.1 h1
            exact ⟨x, hx, h2⟩
          obtain ⟨v, hvm, rfl⟩ := (HSP.out.2 x).1 hx
          obtain ⟨nm, so⟩ := v
          have hk : e.key = .string nm := by injection hkv with h1 _; exact h1.symm
          have hvv : e.val = .agg #[.string nm, .string so, .string nm, .string so, .slice none 0 0] := by injection hkv with _ h1; exact h1.symm
          have hso1 := HSO.out _ hvm
          obtain ⟨c, C, hfd, hvf, hcs, hz1, hz2, hvg, hts⟩ := HFI.out _ hvm
          have hrw : w1.heap[ri]? = some (.mapIter (some tb) clock seen clock) := by rcases hw1 with h | h <;> (rw [h]; exact HRI.out)
          have hu1 : Upd (fun j => j = ri) wr (Go.ChangeMaps.setBlock w1 ri (.mapIter (some tb) clock (seen.push e.born) clock)) := by
            have := upd_setBlock w1 ri (.mapIter (some tb) clock (seen.push e.born) clock)
            rcases hw1 with h | h
            · rw [h] at this ⊢; exact this
            · rw [h] at this ⊢; exact this.ofDrew
          have hr2 := heap_setBlock (o' := .mapIter (some tb) clock (seen.push e.born) clock) hrw
          rw [hk, hvv] at hrun
          generalize Go.ChangeMaps.setBlock w1 ri (.mapIter (some tb) clock (seen.push e.born) clock) = wN at *
          have HBN := Lib.hid (hu1.heap HBB.out (by have := HBL.out; omega))
          have hen := run_entry_at (P := Tryz.prog) wN ri tb clock seen es clock e hr2 HBN.out hml.1 HND.out
          rw [hk, hvv] at hen
          have hnx : ∀ ty, (Instr.next (.pointer (some ⟨ri, 0, none⟩)) false ty).run Tryz.prog wr = _ := fun _ => hrun
          have HUN : Hid (Us' T ad S 121 108 bv bn ub [] bkC st4 w4 wN) := Lib.hid (Us'.outside HU.out hu1 (fun j hj e => (HFR.out ri (Nat.le_refl _)).1 (by rw [← e]; exact hj)) (fun j hj e => by have := (HFR.out ri (Nat.le_refl _)).2.1; omega))
          have HRN := Lib.hid hr2
          have HVN := Lib.hid (HV.out.next HNE.out HSP.out.1 HND.out hml.1 hml.2 hk)
          have HLT := Lib.hid (left_shrinks es seen e he)
          have HSN : Hid (ri + 1 ≤ wN.heap.size) := Lib.hid (Nat.le_trans HSR.out hu1.size)
          have hb5 := alloc0 wN (.cells #[.string nm, .string so, .string nm, .string so, .slice none 0 0] 93)
          have hX5 := (Upd.refl (fun _ => False) wN).alloc (.cells #[.string nm, .string so, .string nm, .string so, .slice none 0 0] 93)
          have HUX := Lib.hid (HUN.out.ext hX5)
          have HCS := Lib.hid hcs
          have HCL := Lib.hid (clsv_same F c wN.heap.size 2 nm so none 0 0 HUX.out.ur (cellRow hb5 2 _ rfl) (cellRow hb5 3 _ rfl) (cellRow hb5 4 _ rfl) (fun h => by have := HUN.out.ur.us.lt _ h; omega) hso1 hfd hvf).2
          have HX5 := Lib.hid hX5
          have t1 : decide ((1000 : Int) < (C.sz : Int)) = false := decide_eq_false (by omega)
          have t2 : decide ((60 : Int) < (C.dp : Int)) = false := decide_eq_false (by omega)
          have t3 : ¬ ((1000 : Int) < (C.sz : Int)) := by omega
          have t4 : ¬ ((60 : Int) < (C.dp : Int)) := by omega
          clear hml hk hvv hrw hu1 hr2 he hw1 hkv hb5 hX5 hso1 hfd hvf hcs hz1 hz2 hvg hts hvm hx
          go_wp2_with fail
          refine HCL.out.mono ?_
          rintro e2 w5 ⟨rfl, hw5⟩
          have HU5 := Lib.hid (HUX.out.ext hw5)
          have HX6 := Lib.hid (HX5.out.trans hw5)
          have HR6 := Lib.hid (HX6.out.heap HRN.out (fun h => h))
          have HM6 := Lib.hid (HX6.out.heap HBN.out (fun h => h))
          have HS6 : Hid (ri + 1 ≤ w5.heap.size) := Lib.hid (Nat.le_trans HSN.out HX6.out.size)
          have hcr := HU5.out.ur.us.row c C HCS.out
          have c6 := cellRow hcr 6 (.int .i64 (C.sz : Int)) rfl
          have c7 := cellRow hcr 7 (.int .i64 (C.dp : Int)) rfl
          clear hw5 hnx hrun hen HCL hcr
          go_wp2_with fail
          have hlt := HLT.out
          go_roundg (leftOf es (seen.push e.born)).size
          case measure => exact hlt
          case rel => exact ⟨D ++ [nm], _, rfl, HR6, HM6, HU5, HS6, HVN⟩


end Go.Proofs.YtlkcjmaiahnodaaGreatDoor

/- Same, over bindings. -/
namespace Go.Proofs.YtlkcjmaiahnodaaGreatDoor
open Go.RowKit Go.Hw Go
set_option linter.unusedVariables false
set_option linter.unusedSimpArgs false

open Tm Go.Sort Go.Proofs Go.ChangeMaps
theorem bg_ext {L M : List Bd} (hl : L.length = M.length) (h : ∀ j, j < L.length → Go.Hw.bg L j = Go.Hw.bg M j) : L = M := by
  refine List.ext_getElem hl (fun i h1 h2 => ?_)
  have := h i h1
  unfold Go.Hw.bg at this
  rw [List.getD_eq_getElem?_getD, List.getD_eq_getElem?_getD, List.getElem?_eq_getElem h1, List.getElem?_eq_getElem h2] at this
  exact this
set_option maxRecDepth 100000 in
set_option maxHeartbeats 2000000 in
theorem rsameB_x (L M : List Bd) (v v' : Value) (R S R' S' : Nat → Prop) (w : World) (h : BnR R S w v L) (h' : BnR R' S' w v' M) (hsz : ∀ x ∈ L, x.2.2.size ≤ 1000000) (hln : L.length ≤ 1000000) :
    Calls Tryz.prog 19 #[v, v'] w fun e w' => e = .returned (.bool (decide (L = M))) ∧ Ext w w' := by
  have H1 := Lib.hid h
  have H2 := Lib.hid h'
  obtain ⟨a1, c1, rfl⟩ := h.shape
  obtain ⟨a2, c2, rfl⟩ := h'.shape
  have HSZ := Lib.hid hsz
  clear h h' hsz
  obtain ⟨RR, hRR⟩ : ∃ b, decide (L = M) = b := ⟨_, rfl⟩
  have HRR := Lib.hid hRR
  rw [hRR]
  clear hRR
  by_cases hl : L.length = M.length
  rotate_left
  · have z2 : ((L.length : Int) != (M.length : Int)) = true := by rw [bne_iff_ne]; intro h; exact hl (by omega)
    have hr : RR = false := by rw [← HRR.out, decide_eq_false_iff_not]; intro e; rw [e] at hl; exact hl rfl
    subst hr
    go_enter Tryz.func19, Tryz.ntmps19
    go_wp2_with fail
    go_ret
    exact ⟨rfl, Upd.refl _ _⟩
  have HL := Lib.hid hl
  have z2 : ((L.length : Int) != (M.length : Int)) = false := by rw [hl]; simp
  clear hl
  go_enter Tryz.func19, Tryz.ntmps19
  go_wp2_with fail
  clear z2
  go_loopg [5] L.length (fun gk iv wr => ∃ k : Nat, iv = .int .i64 (k : Int) ∧ gk = L.length - k ∧ k ≤ L.length ∧ Hid (∀ j, j < k → Go.Hw.bg L j = Go.Hw.bg M j) ∧ Hid (Ext w wr))
  case atStart => exact ⟨0, rfl, rfl, Nat.zero_le _, Lib.hid (fun j hj => absurd hj (Nat.not_lt_zero _)), Lib.hid (Upd.refl _ _)⟩
  case round =>
    obtain ⟨k, rfl, rfl, hk, HQ, HE⟩ := hrel
    by_cases hlt : k < L.length
    · have hlt2 : k < M.length := by rw [← HL.out]; exact hlt
      obtain ⟨g, o, rfl, _, hat⟩ := (H1.out.ext HE.out).at_ (by omega)
      obtain ⟨g', o', rfl, _, hat'⟩ := (H2.out.ext HE.out).at_ (by omega)
      obtain ⟨ka, kc, p0, p1, p2, p3, p4, hT⟩ := hat k hlt
      obtain ⟨ka', kc', q0, q1, q2, q3, q4, hT'⟩ := hat' k hlt2
      have hbm := HSZ.out _ (bg_mem hlt)
      obtain ⟨x, hx⟩ : ∃ x, Go.Hw.bg L k = x := ⟨_, rfl⟩
      obtain ⟨y, hy⟩ : ∃ y, Go.Hw.bg M k = y := ⟨_, rfl⟩
      rw [hx] at p0 p1 p2 p3 p4 hT hbm
      rw [hy] at q0 q1 q2 q3 q4 hT'
      obtain ⟨n1, s1, t1⟩ := x
      obtain ⟨n2, s2, t2⟩ := y
      simp only at p0 p1 p2 p3 p4 hT hbm q0 q1 q2 q3 q4 hT'
      have HXY := Lib.hid (And.intro hx hy)
      have HSM := Lib.hid (fun W (hW : Ext wr W) => same_x t1 t2 _ _ S S' W ⟨ka, kc, rfl, hT.ext hW⟩ ⟨ka', kc', rfl, hT'.ext hW⟩ hbm)
      dsimp only [tV] at HSM
      have z0 : (0 : Int) ≤ (k : Int) := by omega
      have z1 : (k : Int) < (L.length : Int) := by omega
      have z1' : (k : Int) < (M.length : Int) := by omega
      have z2 : decide ((k : Int) < (L.length : Int)) = true := decide_eq_true z1
      have z2' : decide (k < L.length) = true := decide_eq_true hlt
      have d1 := str_dc n1 n2
      have d2 := str_dc s1 s2
      have hfalse : (n1, s1, t1) ≠ (n2, s2, t2) → RR = false := fun hne => by
        rw [← HRR.out, decide_eq_false_iff_not]
        intro e
        rw [e] at HXY
        exact hne (HXY.out.1.symm.trans HXY.out.2)
      have HFL := Lib.hid hfalse
      clear hat hat' hT hT' hbm hx hy hfalse
      by_cases e1 : n1 = n2
      rotate_left
      · rw [decide_eq_false e1] at d1
        have hr := HFL.out (fun e => e1 (Prod.mk.inj e).1)
        subst hr
        clear e1 d2 HSM
        go_wp2_with fail
        go_quiet (fail)
        go_wp2_with fail
        go_ret
        exact ⟨rfl, HE.out.drewN' _⟩
      rw [decide_eq_true e1] at d1
      by_cases e2 : s1 = s2
      rotate_left
      · rw [decide_eq_false e2] at d2
        have hr := HFL.out (fun e => e2 (Prod.mk.inj (Prod.mk.inj e).2).1)
        subst hr
        clear e1 e2 HSM
        go_wp2_with fail
        go_quiet (fail)
        go_wp2_with fail
        go_ret
        exact ⟨rfl, HE.out.drewN' _⟩
      rw [decide_eq_true e2] at d2
      have HN := Lib.hid (And.intro e1 e2)
      clear e1 e2
      go_wp2_with fail
      refine region_quiet_tail 35 (by kernel_rfl) (by kernel_rfl) ?_
      simp only [List.take_succ_cons, List.take_zero, List.drop_succ_cons, List.drop_zero]
      repeat (go_big_quiet_step (fail))
      refine wpQuiet_nil ?_
      change wpList _ _ _ _ _ wr.drew
      go_wp2_with fail
      refine (HSM.out wr.drew (Upd.refl _ wr).drew).mono ?_
      rintro e w5 ⟨rfl, hw5⟩
      have HE5 := Lib.hid (HE.out.drew.trans hw5)
      clear hw5 HSM p0 p1 p2 p3 p4 q0 q1 q2 q3 q4
      by_cases e3 : t1 = t2
      · rw [decide_eq_true e3]
        have HQ2 : Hid (∀ j, j < k + 1 → Go.Hw.bg L j = Go.Hw.bg M j) := Lib.hid (fun j hj => by
          by_cases hjk : j < k
          · exact HQ.out j hjk
          · obtain rfl : j = k := by omega
            rw [HXY.out.1, HXY.out.2, HN.out.1, HN.out.2, e3])
        clear e3
        go_wp2_with fail
        go_roundg (L.length - (k + 1))
        case measure => omega
        case rel => exact ⟨k + 1, by go_num, rfl, by omega, HQ2, HE5⟩
      · rw [decide_eq_false e3]
        have hr := HFL.out (fun e => e3 (Prod.mk.inj (Prod.mk.inj e).2).2)
        subst hr
        clear e3
        go_wp2_with fail
        go_ret
        exact ⟨rfl, HE5.out⟩
    · obtain rfl : k = L.length := by omega
      have z2 : decide ((L.length : Int) < (L.length : Int)) = false := decide_eq_false (by omega)
      have hr : RR = true := by rw [← HRR.out, decide_eq_true_eq]; exact bg_ext HL.out HQ.out
      subst hr
      go_wp2_with fail
      go_ret
      exact ⟨rfl, HE.out⟩

end Go.Proofs.YtlkcjmaiahnodaaGreatDoor

/- The functions of the examples. -/
namespace Go.Proofs.YtlkcjmaiahnodaaGreatDoor
open Go.RowKit Go.Hw Go
set_option linter.unusedVariables false
set_option linter.unusedSimpArgs false

open Tm
set_option maxRecDepth 100000 in
set_option maxHeartbeats 2000000 in
theorem ex58_x (n1 s1 : By) (a1 : Option Addr) (k1 c1 : Nat) (w : World) : Calls Tryz.prog 58 #[.agg #[.string n1, .string s1, .slice a1 k1 c1]] w fun e w' => ∃ b, e = .returned (.agg #[.string ⟨#[103]⟩, .string ⟨#[]⟩, .slice (some ⟨b, 0, none⟩) 1 1]) ∧ w'.heap[b]? = some (.cells #[.string n1, .string s1, .slice a1 k1 c1] 24 (0, 0)) ∧ w.heap.size ≤ b ∧ Ext w w' := by
  go_enter Tryz.func58, Tryz.ntmps58
  go_wp2_with fail
  have hA := ((((Upd.refl (fun _ => False) w).alloc (.cells #[.string n1, .string s1, .slice a1 k1 c1] 24)).alloc (.cells #[.string ⟨#[103]⟩, .string ⟨#[]⟩, .slice (some ⟨w.heap.size + 1 + 1, 0, none⟩) 1 1] 24)).alloc (.cells #[.string n1, .string s1, .slice a1 k1 c1] 24))
  have hb1 := allocOld (alloc_at (w.alloc (.cells #[.string n1, .string s1, .slice a1 k1 c1] 24)) (.cells #[.string ⟨#[103]⟩, .string ⟨#[]⟩, .slice (some ⟨w.heap.size + 1 + 1, 0, none⟩) 1 1] 24) (n := w.heap.size + 1) (by simp)) (.cells #[.string n1, .string s1, .slice a1 k1 c1] 24)
  have hb2 := alloc_at ((w.alloc (.cells #[.string n1, .string s1, .slice a1 k1 c1] 24)).alloc (.cells #[.string ⟨#[103]⟩, .string ⟨#[]⟩, .slice (some ⟨w.heap.size + 1 + 1, 0, none⟩) 1 1] 24)) (.cells #[.string n1, .string s1, .slice a1 k1 c1] 24) (n := w.heap.size + 2) (by simp)
  have e0 := cellRow hb1 0 _ rfl
  have e1 := cellRow hb1 1 _ rfl
  have e2 := cellRow hb1 2 _ rfl
  exact bodyPost_ret (v := .agg #[.string ⟨#[103]⟩, .string ⟨#[]⟩, .slice (some ⟨w.heap.size + 1 + 1, 0, none⟩) 1 1]) (by simp [results, Tryz.results58, go_sem, e0, e1, e2]) rfl ⟨w.heap.size + 1 + 1, rfl, hb2, by omega, hA⟩
set_option maxRecDepth 100000 in
set_option maxHeartbeats 2000000 in
theorem ex59_x (n1 s1 : By) (a1 : Option Addr) (k1 c1 : Nat) (n2 s2 : By) (a2 : Option Addr) (k2 c2 : Nat) (w : World) : Calls Tryz.prog 59 #[.agg #[.string n1, .string s1, .slice a1 k1 c1], .agg #[.string n2, .string s2, .slice a2 k2 c2]] w fun e w' => ∃ b, e = .returned (.agg #[.string ⟨#[102]⟩, .string ⟨#[]⟩, .slice (some ⟨b, 0, none⟩) 2 2]) ∧ w'.heap[b]? = some (.cells #[.string n1, .string s1, .slice a1 k1 c1, .string n2, .string s2, .slice a2 k2 c2] 24 (0, 0)) ∧ w.heap.size ≤ b ∧ Ext w w' := by
  go_enter Tryz.func59, Tryz.ntmps59
  go_wp2_with fail
  have hA := (((((Upd.refl (fun _ => False) w).alloc (.cells #[.string n1, .string s1, .slice a1 k1 c1] 24)).alloc (.cells #[.string n2, .string s2, .slice a2 k2 c2] 24)).alloc (.cells #[.string ⟨#[102]⟩, .string ⟨#[]⟩, .slice (some ⟨w.heap.size + 1 + 1 + 1, 0, none⟩) 2 2] 24)).alloc (.cells #[.string n1, .string s1, .slice a1 k1 c1, .string n2, .string s2, .slice a2 k2 c2] 24))
  have hb1 := allocOld (alloc_at ((w.alloc (.cells #[.string n1, .string s1, .slice a1 k1 c1] 24)).alloc (.cells #[.string n2, .string s2, .slice a2 k2 c2] 24)) (.cells #[.string ⟨#[102]⟩, .string ⟨#[]⟩, .slice (some ⟨w.heap.size + 1 + 1 + 1, 0, none⟩) 2 2] 24) (n := w.heap.size + 2) (by simp)) (.cells #[.string n1, .string s1, .slice a1 k1 c1, .string n2, .string s2, .slice a2 k2 c2] 24)
  have hb2 := alloc_at (((w.alloc (.cells #[.string n1, .string s1, .slice a1 k1 c1] 24)).alloc (.cells #[.string n2, .string s2, .slice a2 k2 c2] 24)).alloc (.cells #[.string ⟨#[102]⟩, .string ⟨#[]⟩, .slice (some ⟨w.heap.size + 1 + 1 + 1, 0, none⟩) 2 2] 24)) (.cells #[.string n1, .string s1, .slice a1 k1 c1, .string n2, .string s2, .slice a2 k2 c2] 24) (n := w.heap.size + 3) (by simp)
  have e0 := cellRow hb1 0 _ rfl
  have e1 := cellRow hb1 1 _ rfl
  have e2 := cellRow hb1 2 _ rfl
  exact bodyPost_ret (v := .agg #[.string ⟨#[102]⟩, .string ⟨#[]⟩, .slice (some ⟨w.heap.size + 1 + 1 + 1, 0, none⟩) 2 2]) (by simp [results, Tryz.results59, go_sem, e0, e1, e2]) rfl ⟨w.heap.size + 1 + 1 + 1, rfl, hb2, by omega, hA⟩

abbrev exx : Tm := .mk ⟨#[120]⟩ ⟨#[115]⟩ []
abbrev exy : Tm := .mk ⟨#[121]⟩ ⟨#[115]⟩ []
abbrev exz : Tm := .mk ⟨#[122]⟩ ⟨#[115]⟩ []
abbrev exg (t : Tm) : Tm := .mk ⟨#[103]⟩ nul [t]
abbrev exf (s t : Tm) : Tm := .mk ⟨#[102]⟩ nul [s, t]
theorem one_tl {S : Nat → Prop} {W : World} {n : Nat} {a : Tm} {ua : Value} (h : W.heap[n]? = some (.cells #[.string a.name, .string a.sort, ua] 24 (0, 0))) (hn : S n) (ha : TlR S W a.kids ua) : TlR S W [a] (.slice (some ⟨n, 0, none⟩) 1 1) := by
  refine .mk _ [ua] _ rfl ?_ (fun i hi => ?_)
  · refine SlR.mk' rfl rfl (Nat.le_refl _) (fun _ => hn) (fun j hj => ?_)
    have hj3 : j < 3 := hj
    rw [Nat.zero_add, cell_of_row W n j _ _ _ h]
    have : j = 0 ∨ j = 1 ∨ j = 2 := by omega
    rcases this with rfl | rfl | rfl <;> rfl
  · obtain rfl : i = 0 := by simpa using hi
    exact ha
theorem exk_tl {S : Nat → Prop} {W : World} {n : Nat} {a b : Tm} {ua ub : Value} (h : W.heap[n]? = some (.cells #[.string a.name, .string a.sort, ua, .string b.name, .string b.sort, ub] 24 (0, 0))) (hn : S n) (ha : TlR S W a.kids ua) (hb : TlR S W b.kids ub) : TlR S W [a, b] (.slice (some ⟨n, 0, none⟩) 2 2) := pair_tl h hn ha hb
def exoT : List Nr := [⟨⟨#[102]⟩, ⟨#[]⟩, [2, 3]⟩, ⟨⟨#[102]⟩, ⟨#[]⟩, [4, 5]⟩, ⟨⟨#[120]⟩, ⟨#[115]⟩, []⟩, ⟨⟨#[103]⟩, ⟨#[]⟩, [6]⟩, ⟨⟨#[103]⟩, ⟨#[]⟩, [7]⟩, ⟨⟨#[120]⟩, ⟨#[115]⟩, []⟩, ⟨⟨#[121]⟩, ⟨#[115]⟩, []⟩, ⟨⟨#[122]⟩, ⟨#[115]⟩, []⟩]
def exoA (b1 b2 b3 b4 ba bb : Nat) : Nat → Nat × Nat
  | 0 => (ba, 0)
  | 1 => (bb, 0)
  | 2 => (b1, 0)
  | 3 => (b1, 3)
  | 4 => (b2, 0)
  | 5 => (b2, 3)
  | 6 => (b3, 0)
  | 7 => (b4, 0)
  | _ => (0, 0)
theorem exo_nd {W : World} {b1 b2 b3 b4 ba bb : Nat} (hd : b1 ≠ b2 ∧ b1 ≠ b3 ∧ b1 ≠ b4 ∧ b1 ≠ ba ∧ b1 ≠ bb ∧ b2 ≠ b3 ∧ b2 ≠ b4 ∧ b2 ≠ ba ∧ b2 ≠ bb ∧ b3 ≠ b4 ∧ b3 ≠ ba ∧ b3 ≠ bb ∧ b4 ≠ ba ∧ b4 ≠ bb ∧ ba ≠ bb) (hb1 : W.heap[b1]? = some (.cells #[.string ⟨#[120]⟩, .string ⟨#[115]⟩, .slice none 0 0, .string ⟨#[103]⟩, .string ⟨#[]⟩, .slice (some ⟨b3, 0, none⟩) 1 1] 24 (0, 0))) (hb2 : W.heap[b2]? = some (.cells #[.string ⟨#[103]⟩, .string ⟨#[]⟩, .slice (some ⟨b4, 0, none⟩) 1 1, .string ⟨#[120]⟩, .string ⟨#[115]⟩, .slice none 0 0] 24 (0, 0))) (hb3 : W.heap[b3]? = some (.cells #[.string ⟨#[121]⟩, .string ⟨#[115]⟩, .slice none 0 0] 24 (0, 0))) (hb4 : W.heap[b4]? = some (.cells #[.string ⟨#[122]⟩, .string ⟨#[115]⟩, .slice none 0 0] 24 (0, 0))) (hba : W.heap[ba]? = some (.cells #[.string ⟨#[102]⟩, .string ⟨#[]⟩, .slice (some ⟨b1, 0, none⟩) 2 2] 24 (0, 0))) (hbb : W.heap[bb]? = some (.cells #[.string ⟨#[102]⟩, .string ⟨#[]⟩, .slice (some ⟨b2, 0, none⟩) 2 2] 24 (0, 0))) : NdR exoT (exoA b1 b2 b3 b4 ba bb) (fun k => k = b1 ∨ k = b2 ∨ k = b3 ∨ k = b4 ∨ k = ba ∨ k = bb) W := by
  refine ⟨fun i j hi hj e => ?_, fun i hi => ?_, fun i r hr => ?_⟩
  · have hi' : i < 8 := hi
    have hj' : j < 8 := hj
    rcases (by omega : i = 0 ∨ i = 1 ∨ i = 2 ∨ i = 3 ∨ i = 4 ∨ i = 5 ∨ i = 6 ∨ i = 7) with rfl | rfl | rfl | rfl | rfl | rfl | rfl | rfl <;> rcases (by omega : j = 0 ∨ j = 1 ∨ j = 2 ∨ j = 3 ∨ j = 4 ∨ j = 5 ∨ j = 6 ∨ j = 7) with rfl | rfl | rfl | rfl | rfl | rfl | rfl | rfl <;> first | rfl | (simp only [exoA, Prod.mk.injEq] at e; omega)
  · have hi' : i < 8 := hi
    rcases (by omega : i = 0 ∨ i = 1 ∨ i = 2 ∨ i = 3 ∨ i = 4 ∨ i = 5 ∨ i = 6 ∨ i = 7) with rfl | rfl | rfl | rfl | rfl | rfl | rfl | rfl
    · exact ⟨⟨_, _, hba⟩, by simp [exoA]⟩
    · exact ⟨⟨_, _, hbb⟩, by simp [exoA]⟩
    · exact ⟨⟨_, _, hb1⟩, by simp [exoA]⟩
    · exact ⟨⟨_, _, hb1⟩, by simp [exoA]⟩
    · exact ⟨⟨_, _, hb2⟩, by simp [exoA]⟩
    · exact ⟨⟨_, _, hb2⟩, by simp [exoA]⟩
    · exact ⟨⟨_, _, hb3⟩, by simp [exoA]⟩
    · exact ⟨⟨_, _, hb4⟩, by simp [exoA]⟩
  · have hi' : i < 8 := (List.getElem?_eq_some_iff.1 hr).1
    rcases (by omega : i = 0 ∨ i = 1 ∨ i = 2 ∨ i = 3 ∨ i = 4 ∨ i = 5 ∨ i = 6 ∨ i = 7) with rfl | rfl | rfl | rfl | rfl | rfl | rfl | rfl <;> (injection hr with hr; subst hr)
    · refine ⟨cellRow hba 0 _ rfl, cellRow hba 1 _ rfl, _, _, cellRow hba 2 _ rfl, fun _ => ⟨b1, 0, rfl, fun j q hq => ?_⟩⟩
      have hj : j < 2 := (List.getElem?_eq_some_iff.1 hq).1
      rcases (by omega : j = 0 ∨ j = 1) with rfl | rfl <;> (injection hq with hq; subst hq; exact ⟨by decide, rfl⟩)
    · refine ⟨cellRow hbb 0 _ rfl, cellRow hbb 1 _ rfl, _, _, cellRow hbb 2 _ rfl, fun _ => ⟨b2, 0, rfl, fun j q hq => ?_⟩⟩
      have hj : j < 2 := (List.getElem?_eq_some_iff.1 hq).1
      rcases (by omega : j = 0 ∨ j = 1) with rfl | rfl <;> (injection hq with hq; subst hq; exact ⟨by decide, rfl⟩)
    · refine ⟨cellRow hb1 0 _ rfl, cellRow hb1 1 _ rfl, _, _, cellRow hb1 2 _ rfl, fun h => absurd h (by decide)⟩
    · refine ⟨cellRow hb1 3 _ rfl, cellRow hb1 4 _ rfl, _, _, cellRow hb1 5 _ rfl, fun _ => ⟨b3, 0, rfl, fun j q hq => ?_⟩⟩
      have hj : j < 1 := (List.getElem?_eq_some_iff.1 hq).1
      rcases (by omega : j = 0) with rfl <;> (injection hq with hq; subst hq; exact ⟨by decide, rfl⟩)
    · refine ⟨cellRow hb2 0 _ rfl, cellRow hb2 1 _ rfl, _, _, cellRow hb2 2 _ rfl, fun _ => ⟨b4, 0, rfl, fun j q hq => ?_⟩⟩
      have hj : j < 1 := (List.getElem?_eq_some_iff.1 hq).1
      rcases (by omega : j = 0) with rfl <;> (injection hq with hq; subst hq; exact ⟨by decide, rfl⟩)
    · refine ⟨cellRow hb2 3 _ rfl, cellRow hb2 4 _ rfl, _, _, cellRow hb2 5 _ rfl, fun h => absurd h (by decide)⟩
    · refine ⟨cellRow hb3 0 _ rfl, cellRow hb3 1 _ rfl, _, _, cellRow hb3 2 _ rfl, fun h => absurd h (by decide)⟩
    · refine ⟨cellRow hb4 0 _ rfl, cellRow hb4 1 _ rfl, _, _, cellRow hb4 2 _ rfl, fun h => absurd h (by decide)⟩
def extT : List Nr := [⟨⟨#[102]⟩, ⟨#[]⟩, [2, 3]⟩, ⟨⟨#[102]⟩, ⟨#[]⟩, [4, 5]⟩, ⟨⟨#[120]⟩, ⟨#[115]⟩, []⟩, ⟨⟨#[120]⟩, ⟨#[115]⟩, []⟩, ⟨⟨#[121]⟩, ⟨#[115]⟩, []⟩, ⟨⟨#[103]⟩, ⟨#[]⟩, [6]⟩, ⟨⟨#[121]⟩, ⟨#[115]⟩, []⟩]
def extA (b1 b2 b3 ba bb : Nat) : Nat → Nat × Nat
  | 0 => (ba, 0)
  | 1 => (bb, 0)
  | 2 => (b1, 0)
  | 3 => (b1, 3)
  | 4 => (b2, 0)
  | 5 => (b2, 3)
  | 6 => (b3, 0)
  | _ => (0, 0)
theorem ext_nd {W : World} {b1 b2 b3 ba bb : Nat} (hd : b1 ≠ b2 ∧ b1 ≠ b3 ∧ b1 ≠ ba ∧ b1 ≠ bb ∧ b2 ≠ b3 ∧ b2 ≠ ba ∧ b2 ≠ bb ∧ b3 ≠ ba ∧ b3 ≠ bb ∧ ba ≠ bb) (hb1 : W.heap[b1]? = some (.cells #[.string ⟨#[120]⟩, .string ⟨#[115]⟩, .slice none 0 0, .string ⟨#[120]⟩, .string ⟨#[115]⟩, .slice none 0 0] 24 (0, 0))) (hb2 : W.heap[b2]? = some (.cells #[.string ⟨#[121]⟩, .string ⟨#[115]⟩, .slice none 0 0, .string ⟨#[103]⟩, .string ⟨#[]⟩, .slice (some ⟨b3, 0, none⟩) 1 1] 24 (0, 0))) (hb3 : W.heap[b3]? = some (.cells #[.string ⟨#[121]⟩, .string ⟨#[115]⟩, .slice none 0 0] 24 (0, 0))) (hba : W.heap[ba]? = some (.cells #[.string ⟨#[102]⟩, .string ⟨#[]⟩, .slice (some ⟨b1, 0, none⟩) 2 2] 24 (0, 0))) (hbb : W.heap[bb]? = some (.cells #[.string ⟨#[102]⟩, .string ⟨#[]⟩, .slice (some ⟨b2, 0, none⟩) 2 2] 24 (0, 0))) : NdR extT (extA b1 b2 b3 ba bb) (fun k => k = b1 ∨ k = b2 ∨ k = b3 ∨ k = ba ∨ k = bb) W := by
  refine ⟨fun i j hi hj e => ?_, fun i hi => ?_, fun i r hr => ?_⟩
  · have hi' : i < 7 := hi
    have hj' : j < 7 := hj
    rcases (by omega : i = 0 ∨ i = 1 ∨ i = 2 ∨ i = 3 ∨ i = 4 ∨ i = 5 ∨ i = 6) with rfl | rfl | rfl | rfl | rfl | rfl | rfl <;> rcases (by omega : j = 0 ∨ j = 1 ∨ j = 2 ∨ j = 3 ∨ j = 4 ∨ j = 5 ∨ j = 6) with rfl | rfl | rfl | rfl | rfl | rfl | rfl <;> first | rfl | (simp only [extA, Prod.mk.injEq] at e; omega)
  · have hi' : i < 7 := hi
    rcases (by omega : i = 0 ∨ i = 1 ∨ i = 2 ∨ i = 3 ∨ i = 4 ∨ i = 5 ∨ i = 6) with rfl | rfl | rfl | rfl | rfl | rfl | rfl
    · exact ⟨⟨_, _, hba⟩, by simp [extA]⟩
    · exact ⟨⟨_, _, hbb⟩, by simp [extA]⟩
    · exact ⟨⟨_, _, hb1⟩, by simp [extA]⟩
    · exact ⟨⟨_, _, hb1⟩, by simp [extA]⟩
    · exact ⟨⟨_, _, hb2⟩, by simp [extA]⟩
    · exact ⟨⟨_, _, hb2⟩, by simp [extA]⟩
    · exact ⟨⟨_, _, hb3⟩, by simp [extA]⟩
  · have hi' : i < 7 := (List.getElem?_eq_some_iff.1 hr).1
    rcases (by omega : i = 0 ∨ i = 1 ∨ i = 2 ∨ i = 3 ∨ i = 4 ∨ i = 5 ∨ i = 6) with rfl | rfl | rfl | rfl | rfl | rfl | rfl <;> (injection hr with hr; subst hr)
    · refine ⟨cellRow hba 0 _ rfl, cellRow hba 1 _ rfl, _, _, cellRow hba 2 _ rfl, fun _ => ⟨b1, 0, rfl, fun j q hq => ?_⟩⟩
      have hj : j < 2 := (List.getElem?_eq_some_iff.1 hq).1
      rcases (by omega : j = 0 ∨ j = 1) with rfl | rfl <;> (injection hq with hq; subst hq; exact ⟨by decide, rfl⟩)
    · refine ⟨cellRow hbb 0 _ rfl, cellRow hbb 1 _ rfl, _, _, cellRow hbb 2 _ rfl, fun _ => ⟨b2, 0, rfl, fun j q hq => ?_⟩⟩
      have hj : j < 2 := (List.getElem?_eq_some_iff.1 hq).1
      rcases (by omega : j = 0 ∨ j = 1) with rfl | rfl <;> (injection hq with hq; subst hq; exact ⟨by decide, rfl⟩)
    · refine ⟨cellRow hb1 0 _ rfl, cellRow hb1 1 _ rfl, _, _, cellRow hb1 2 _ rfl, fun h => absurd h (by decide)⟩
    · refine ⟨cellRow hb1 3 _ rfl, cellRow hb1 4 _ rfl, _, _, cellRow hb1 5 _ rfl, fun h => absurd h (by decide)⟩
    · refine ⟨cellRow hb2 0 _ rfl, cellRow hb2 1 _ rfl, _, _, cellRow hb2 2 _ rfl, fun h => absurd h (by decide)⟩
    · refine ⟨cellRow hb2 3 _ rfl, cellRow hb2 4 _ rfl, _, _, cellRow hb2 5 _ rfl, fun _ => ⟨b3, 0, rfl, fun j q hq => ?_⟩⟩
      have hj : j < 1 := (List.getElem?_eq_some_iff.1 hq).1
      rcases (by omega : j = 0) with rfl <;> (injection hq with hq; subst hq; exact ⟨by decide, rfl⟩)
    · refine ⟨cellRow hb3 0 _ rfl, cellRow hb3 1 _ rfl, _, _, cellRow hb3 2 _ rfl, fun h => absurd h (by decide)⟩

/-- what Unify's contract asks of its outcome -/
def okFin (T : List Nr) (F : Nat) (vs : List Vd) (τ : Vd → Tm) (st : St) : Bool := vs.all fun v => (fnd st.vs v.1).isSome && (match varF F st v.1 v.2 with
  | none => false
  | some (_, c) => match st.cs[c]? with
    | none => false
    | some C => decide (C.sz ≤ 1000) && decide (C.dp ≤ 60) && decide (vaG T st F c = some (τ v)) && decide ((τ v).size ≤ 100000))
theorem okFin_spec {T : List Nr} {F : Nat} {vs : List Vd} {τ : Vd → Tm} {st : St} (h : okFin T F vs τ st = true) : ∀ v ∈ vs, ∃ c C, (fnd st.vs v.1).isSome = true ∧ varF F st v.1 v.2 = some (st, c) ∧ st.cs[c]? = some C ∧ C.sz ≤ 1000 ∧ C.dp ≤ 60 ∧ vaG T st F c = some (τ v) ∧ (τ v).size ≤ 100000 := fun v hv => by
  have h1 := List.all_eq_true.1 h v hv
  rw [Bool.and_eq_true] at h1
  obtain ⟨h1, h2⟩ := h1
  cases hf : varF F st v.1 v.2 with
  | none => rw [hf] at h2; cases h2
  | some q =>
    obtain ⟨s', c⟩ := q
    rw [hf] at h2
    simp only at h2
    cases hc : st.cs[c]? with
    | none => rw [hc] at h2; cases h2
    | some C =>
      rw [hc] at h2
      simp only [Bool.and_eq_true, decide_eq_true_eq] at h2
      have hs := varF_same h1 hf
      subst hs
      exact ⟨c, C, h1, rfl, hc, h2.1.1.1, h2.1.1.2, h2.1.2, h2.2⟩
def exoV : List Vd := varsT (exf exx (exg exy)) ++ varsT (exf (exg exz) exx)
def extV : List Vd := varsT (exf exx exx) ++ varsT (exf exy (exg exy))
def exoτ (v : Vd) : Tm := if v.1 = ⟨#[120]⟩ then exg exy else exy
theorem exo_ok : ((uRes exoT 20 exoV).bind id).any (fun st => okFin exoT 20 exoV exoτ st) = true := by decide +kernel
theorem ext_none : (match uRes extT 20 extV with | some none => true | _ => false) = true := by decide +kernel
theorem exo_wf : (wf nmB (exf exx (exg exy)) && wf nmB (exf (exg exz) exx) && wf nmB (exf exx exx) && wf nmB (exf exy (exg exy))) = true := by decide +kernel
theorem exo_v : exoV = [(⟨#[120]⟩, ⟨#[115]⟩), (⟨#[121]⟩, ⟨#[115]⟩), (⟨#[120]⟩, ⟨#[115]⟩), (⟨#[122]⟩, ⟨#[115]⟩)] := by decide +kernel
theorem ext_v : extV = [(⟨#[120]⟩, ⟨#[115]⟩), (⟨#[121]⟩, ⟨#[115]⟩)] := by decide +kernel

end Go.Proofs.YtlkcjmaiahnodaaGreatDoor

/- Unify at the examples. -/
namespace Go.Proofs.YtlkcjmaiahnodaaGreatDoor
open Go.RowKit Go.Hw Go
set_option linter.unusedVariables false
set_option linter.unusedSimpArgs false

open Tm Go.Sort Go.Proofs Go.ChangeMaps
theorem heap_ne {W : World} {a b : Nat} {o o' : Obj} (h : W.heap[a]? = some o) (h' : W.heap[b]? = some o') (hn : o ≠ o') : a ≠ b := fun e => by
  rw [e, h'] at h
  injection h with h
  exact hn h.symm
def exoL : List Bd := [(⟨#[120]⟩, ⟨#[115]⟩, exg exy), (⟨#[122]⟩, ⟨#[115]⟩, exy)]
set_option maxRecDepth 100000 in
set_option maxHeartbeats 2000000 in
theorem exo_x (W : World) (htab : AscT W) (b1 b2 b3 b4 : Nat) (h1 : W.heap[b1]? = some (.cells #[.string ⟨#[120]⟩, .string ⟨#[115]⟩, .slice none 0 0, .string ⟨#[103]⟩, .string ⟨#[]⟩, .slice (some ⟨b3, 0, none⟩) 1 1] 24 (0, 0))) (h2 : W.heap[b2]? = some (.cells #[.string ⟨#[103]⟩, .string ⟨#[]⟩, .slice (some ⟨b4, 0, none⟩) 1 1, .string ⟨#[120]⟩, .string ⟨#[115]⟩, .slice none 0 0] 24 (0, 0))) (h3 : W.heap[b3]? = some (.cells #[.string ⟨#[121]⟩, .string ⟨#[115]⟩, .slice none 0 0] 24 (0, 0))) (h4 : W.heap[b4]? = some (.cells #[.string ⟨#[122]⟩, .string ⟨#[115]⟩, .slice none 0 0] 24 (0, 0))) :
    Calls Tryz.prog 17 #[.agg #[.string ⟨#[102]⟩, .string ⟨#[]⟩, .slice (some ⟨b1, 0, none⟩) 2 2], .agg #[.string ⟨#[102]⟩, .string ⟨#[]⟩, .slice (some ⟨b2, 0, none⟩) 2 2]] W fun e w' => ∃ ra rc, e = .returned (.tuple #[.slice ra 2 rc, .int .i64 0]) ∧ BnR (fun k => k < w'.heap.size) (fun k => k < w'.heap.size) w' (.slice ra 2 rc) exoL ∧ Ext W w' := by
  have l1 := (Array.getElem?_eq_some_iff.1 h1).1
  have l2 := (Array.getElem?_eq_some_iff.1 h2).1
  have l3 := (Array.getElem?_eq_some_iff.1 h3).1
  have l4 := (Array.getElem?_eq_some_iff.1 h4).1
  have hw := exo_wf
  simp only [Bool.and_eq_true] at hw
  have hvs : varsT (exf exx (exg exy)) ++ varsT (exf (exg exz) exx) = [(⟨#[120]⟩, ⟨#[115]⟩), (⟨#[121]⟩, ⟨#[115]⟩), (⟨#[120]⟩, ⟨#[115]⟩), (⟨#[122]⟩, ⟨#[115]⟩)] := exo_v
  have hok := exo_ok
  have d12 := heap_ne h1 h2 (by simp)
  have d13 := heap_ne h1 h3 (by simp)
  have d14 := heap_ne h1 h4 (by simp)
  have d23 := heap_ne h2 h3 (by simp)
  have d24 := heap_ne h2 h4 (by simp)
  have d34 := heap_ne h3 h4 (by simp)
  cases hu : uRes exoT 20 exoV with
  | none => rw [hu] at hok; cases hok
  | some R =>
  rw [hu] at hok
  have hR0 : R ≠ none := fun e => by rw [e] at hok; cases hok
  have hnil : ∀ S, TlR S W [] (.slice none 0 0) := fun S => TlR.nil _ _
  have hx := Unify_x (T := exoT) (ad := exoA b1 b2 b3 b4 W.heap.size (W.heap.size + 1)) (S := fun k => k = b1 ∨ k = b2 ∨ k = b3 ∨ k = b4 ∨ k = W.heap.size ∨ k = W.heap.size + 1) 20 (exf exx (exg exy)) (exf (exg exz) exx) (some ⟨b1, 0, none⟩) (some ⟨b2, 0, none⟩) 2 2 W htab
    ⟨_, _, rfl, exk_tl (a := exx) (b := exg exy) h1 l1 (hnil _) (one_tl (a := exy) h3 l3 (hnil _))⟩ ⟨_, _, rfl, exk_tl (a := exg exz) (b := exx) h2 l2 (one_tl (a := exz) h4 l4 (hnil _)) (hnil _)⟩ (by decide) (by decide) hw.1.1.1 hw.1.1.2
    (by rw [hvs]; decide) (by rw [hvs]; decide) rfl rfl
    (fun W' hW' ha hb => exo_nd ⟨d12, d13, d14, by omega, by omega, d23, d24, by omega, by omega, d34, by omega, by omega, by omega, by omega, by omega⟩ (hW'.heap h1 (fun h => h)) (hW'.heap h2 (fun h => h)) (hW'.heap h3 (fun h => h)) (hW'.heap h4 (fun h => h)) ha hb)
    (by rintro k (h | h | h | h | h | h) <;> omega)
    (fun i r hr => (by decide : ∀ r ∈ exoT, r.ks.length ≤ 1000000) r (List.mem_of_getElem? hr)) R hu exoτ (fun st e => okFin_spec (by rw [e] at hok; exact hok))
  refine hx.mono ?_
  rintro e w' ⟨hres, hE⟩
  rcases hres with ⟨h, _⟩ | ⟨_, r, L, rfl, hbn, hasc, hmem⟩
  · exact absurd h hR0
  rw [hvs] at hmem
  have tx : exoτ (⟨#[120]⟩, ⟨#[115]⟩) = exg exy := if_pos rfl
  have ty : exoτ (⟨#[121]⟩, ⟨#[115]⟩) = exy := if_neg (by decide)
  have tz : exoτ (⟨#[122]⟩, ⟨#[115]⟩) = exy := if_neg (by decide)
  have hL : L = exoL := asc_uniq Prod.fst hasc (by unfold exoL AscK; decide) (fun f => by
    rw [hmem f]
    constructor
    · rintro ⟨⟨v, hv, e⟩, hs⟩
      simp only [List.mem_cons, List.not_mem_nil, or_false] at hv
      rcases hv with e2 | e2 | e2 | e2 <;> subst e2 <;> subst e
      · exact List.mem_cons.2 (.inl (by rw [tx]))
      · exact absurd hs (by rw [ty]; decide)
      · exact List.mem_cons.2 (.inl (by rw [tx]))
      · exact List.mem_cons.2 (.inr (List.mem_cons.2 (.inl (by rw [tz]))))
    · intro hf
      unfold exoL at hf
      simp only [List.mem_cons, List.not_mem_nil, or_false] at hf
      rcases hf with e | e <;> subst e
      · exact ⟨⟨(⟨#[120]⟩, ⟨#[115]⟩), by simp, by rw [tx]⟩, by decide⟩
      · exact ⟨⟨(⟨#[122]⟩, ⟨#[115]⟩), by simp, by rw [tz]⟩, by decide⟩)
  subst hL
  obtain ⟨ra, rc, rfl⟩ := hbn.shape
  exact ⟨ra, rc, rfl, hbn.weaken (fun k hk => hk.2) (fun k hk => hk.2), hE⟩
set_option maxRecDepth 100000 in
set_option maxHeartbeats 2000000 in
theorem ext_x (W : World) (htab : AscT W) (b1 b2 b3 : Nat) (h1 : W.heap[b1]? = some (.cells #[.string ⟨#[120]⟩, .string ⟨#[115]⟩, .slice none 0 0, .string ⟨#[120]⟩, .string ⟨#[115]⟩, .slice none 0 0] 24 (0, 0))) (h2 : W.heap[b2]? = some (.cells #[.string ⟨#[121]⟩, .string ⟨#[115]⟩, .slice none 0 0, .string ⟨#[103]⟩, .string ⟨#[]⟩, .slice (some ⟨b3, 0, none⟩) 1 1] 24 (0, 0))) (h3 : W.heap[b3]? = some (.cells #[.string ⟨#[121]⟩, .string ⟨#[115]⟩, .slice none 0 0] 24 (0, 0))) :
    Calls Tryz.prog 17 #[.agg #[.string ⟨#[102]⟩, .string ⟨#[]⟩, .slice (some ⟨b1, 0, none⟩) 2 2], .agg #[.string ⟨#[102]⟩, .string ⟨#[]⟩, .slice (some ⟨b2, 0, none⟩) 2 2]] W fun e w' => e = .returned (.tuple #[.slice none 0 0, .int .i64 12]) ∧ Ext W w' := by
  have l1 := (Array.getElem?_eq_some_iff.1 h1).1
  have l2 := (Array.getElem?_eq_some_iff.1 h2).1
  have l3 := (Array.getElem?_eq_some_iff.1 h3).1
  have hw := exo_wf
  simp only [Bool.and_eq_true] at hw
  have hvs : varsT (exf exx exx) ++ varsT (exf exy (exg exy)) = [(⟨#[120]⟩, ⟨#[115]⟩), (⟨#[121]⟩, ⟨#[115]⟩)] := ext_v
  have hno := ext_none
  have d12 := heap_ne h1 h2 (by simp)
  have d13 := heap_ne h1 h3 (by simp)
  have d23 := heap_ne h2 h3 (by simp)
  have hu : uRes extT 20 extV = some none := by
    cases hq : uRes extT 20 extV with
    | none => rw [hq] at hno; cases hno
    | some R =>
      cases R with
      | none => rfl
      | some st => rw [hq] at hno; cases hno
  have hnil : ∀ S, TlR S W [] (.slice none 0 0) := fun S => TlR.nil _ _
  have hx := Unify_x (T := extT) (ad := extA b1 b2 b3 W.heap.size (W.heap.size + 1)) (S := fun k => k = b1 ∨ k = b2 ∨ k = b3 ∨ k = W.heap.size ∨ k = W.heap.size + 1) 20 (exf exx exx) (exf exy (exg exy)) (some ⟨b1, 0, none⟩) (some ⟨b2, 0, none⟩) 2 2 W htab
    ⟨_, _, rfl, exk_tl (a := exx) (b := exx) h1 l1 (hnil _) (hnil _)⟩ ⟨_, _, rfl, exk_tl (a := exy) (b := exg exy) h2 l2 (hnil _) (one_tl (a := exy) h3 l3 (hnil _))⟩ (by decide) (by decide) hw.1.2 hw.2
    (by rw [hvs]; decide) (by rw [hvs]; decide) rfl rfl
    (fun W' hW' ha hb => ext_nd ⟨d12, d13, by omega, by omega, d23, by omega, by omega, by omega, by omega, by omega⟩ (hW'.heap h1 (fun h => h)) (hW'.heap h2 (fun h => h)) (hW'.heap h3 (fun h => h)) ha hb)
    (by rintro k (h | h | h | h | h) <;> omega)
    (fun i r hr => (by decide : ∀ r ∈ extT, r.ks.length ≤ 1000000) r (List.mem_of_getElem? hr)) none hu exoτ (fun st e => by cases e)
  refine hx.mono ?_
  rintro e w' ⟨hres, hE⟩
  rcases hres with ⟨_, h⟩ | ⟨h, _⟩
  · exact ⟨h, hE⟩
  · exact absurd rfl h

end Go.Proofs.YtlkcjmaiahnodaaGreatDoor
