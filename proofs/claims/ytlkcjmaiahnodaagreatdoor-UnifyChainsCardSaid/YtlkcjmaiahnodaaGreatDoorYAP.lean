/- The texts N42 N43 N45 N46 N47, one behind the other. -/
import Derived.Test.YtlkcjmaiahnodaaGreatDoorYAO
import Derived.Test.YtlkcjmaiahnodaaGreatDoorYAM
import Derived.Test.YtlkcjmaiahnodaaGreatDoorYAF
import Derived.Test.YtlkcjmaiahnodaaGreatDoorYAL
/- Put, of the reference. -/
namespace Go.Proofs.YtlkcjmaiahnodaaGreatDoor
open Go.RowKit Go.Hw Go
set_option linter.unusedVariables false
set_option linter.unusedSimpArgs false

open Tm Go.Sort Go.Proofs Go.ChangeMaps
end Go.Proofs.YtlkcjmaiahnodaaGreatDoor

/- Apply, of the reference. -/
namespace Go.Proofs.YtlkcjmaiahnodaaGreatDoor
open Go.RowKit Go.Hw Go
set_option linter.unusedVariables false
set_option linter.unusedSimpArgs false

open Tm Go.Sort Go.Proofs Go.ChangeMaps
end Go.Proofs.YtlkcjmaiahnodaaGreatDoor

/- Composition, pure. -/
namespace Go.Proofs.YtlkcjmaiahnodaaGreatDoor
open Go.RowKit Go.Hw Go
set_option linter.unusedVariables false
set_option linter.unusedSimpArgs false

open Tm Go.Sort Go.Proofs Go.ChangeMaps
theorem nmB_nul : nmB nul = false := by decide +kernel
def itsB (f : Bd) : Bool := !decide (f.2.2.sort = nul) && decide (f.2.2.name = f.1)
theorem kids_nil {V : Tm} (h : wf nmB V = true) (hs : V.sort ≠ nul) : V = vr V.name V.sort := by
  have h1 : V.kids = [] := wf_nop h V (mem_sbts_self V) hs
  obtain ⟨n, s, L⟩ := V
  simp only [Tm.kids] at h1
  subst h1
  rfl
theorem slf_op {n so m : By} {K : List Tm} (hso : nmB so = true) : slfB (n, so, .mk m nul K) = false := by
  unfold slfB
  rw [decide_eq_false_iff_not]
  intro e
  injection e with _ e _
  have e : so = nul := e.symm
  rw [e, nmB_nul] at hso
  cases hso
theorem slf_var {n so m : By} (hs : so ≠ nul) : slfB (n, so, vr m so) = decide (m = n) := by
  unfold slfB
  rw [Bool.eq_iff_iff, decide_eq_true_eq, decide_eq_true_eq]
  constructor
  · intro e; injection e
  · intro e; simp only [e]
theorem cm_self {a b : List Bd} {x : Bd} {z : Tm} (ha : vldB nmB a = true) (hb : vldB nmB b = true) (hx : x ∈ a) (h : app1 nmB b x.2.2 = (z, 0)) : selfB (x.1, x.2.1, z) = slfB (x.1, x.2.1, z) ∧ itsB (x.1, x.2.1, z) = slfB (x.1, x.2.1, z) := by
  obtain ⟨hc, hz, hwz⟩ := app1_ok h
  obtain ⟨n, so, T⟩ := x
  obtain ⟨_, hso, hT, hsf⟩ := (vldB_spec ha).2.2 _ hx
  simp only at hso hT hsf hz ⊢ hc
  have hop : z.sort = nul → selfB (n, so, z) = slfB (n, so, z) ∧ itsB (n, so, z) = slfB (n, so, z) := fun e => by
    have h1 : slfB (n, so, z) = false := by
      obtain ⟨m, s, K⟩ := z
      simp only [Tm.sort] at e
      subst e
      exact slf_op hso
    rw [h1]
    unfold selfB isB itsB
    simp only [e]
    simp
  by_cases hzs : z.sort = nul
  · exact hop hzs
  · have hTs : T.sort ≠ nul := fun e => by
      obtain ⟨m, s, K⟩ := T
      simp only [Tm.sort] at e
      subst e
      unfold sbB at hz
      rw [sbT_opn] at hz
      exact hzs (by rw [hz]; rfl)
    obtain ⟨h1, h2⟩ := hsf hTs
    have hTv := kids_nil hT hTs
    have hsz : z.sort = so := by
      rw [hTv] at hz
      unfold sbB vr at hz
      rw [sbT_var _ hTs] at hz
      cases hg : bget b T.name with
      | none => rw [bsu_none hg] at hz; rw [hz]; exact h1
      | some V =>
        rw [bsu_some hg] at hz
        subst hz
        obtain ⟨c, hcm, h3, h4⟩ := bget_some hg
        have h5 := bget_of (asc_dist (vldB_spec hb).2.1) hcm
        rw [h3] at h5
        have h6 := (clsh_false hT).1 hc (T.name, T.sort) (by obtain ⟨m, s, K⟩ := T; exact vof_self hTs K) _ h5.2
        have h7 := (vldB_spec hb).2.2 _ hcm
        have h8 := (h7.2.2.2 (by rw [h4]; exact hzs)).1
        rw [h4] at h8
        rw [h8, h6, h1]
    have hzv := kids_nil hwz hzs
    have hso2 : so ≠ nul := by rw [← hsz]; exact hzs
    have h3 : slfB (n, so, z) = decide (z.name = n) := by
      rw [hzv, hsz]
      exact slf_var hso2
    rw [h3]
    unfold selfB isB itsB
    simp only [hsz]
    simp [hso2]
def cm1 (b : List Bd) (x : Bd) : Bd := (x.1, x.2.1, sbB b x.2.2)
theorem cmpA_fail {b : List Bd} {x : Bd} {l2 : List Bd} : ∀ {l1 : List Bd}, (∀ y ∈ l1, (app1 nmB b y.2.2).2 = 0) → (app1 nmB b x.2.2).2 ≠ 0 → cmpA nmB b (l1 ++ x :: l2) = ([], (app1 nmB b x.2.2).2)
  | [], _, h => by
    rw [List.nil_append]
    unfold cmpA
    rw [if_neg h]
  | y :: l1, h1, h => by
    rw [List.cons_append]
    unfold cmpA
    rw [if_pos (h1 y (List.mem_cons_self ..)), cmpA_fail (fun z hz => h1 z (List.mem_cons_of_mem _ hz)) h, if_neg h]
theorem addB_len (b : Bd) : ∀ l : List Bd, (addB l b).length = l.length + 1
  | [] => rfl
  | c :: l => by
    unfold addB
    split
    · rfl
    · rw [List.length_cons, addB_len b l, List.length_cons]
theorem srtB_len (X : List Bd) : (srtB X).length = (X.filter fun b => !slfB b).length := by
  have : ∀ (X l : List Bd), (X.foldl (fun l b => if slfB b = true then l else addB l b) l).length = l.length + (X.filter fun b => !slfB b).length := by
    intro X
    induction X with
    | nil => intro l; simp
    | cons b X ih =>
      intro l
      rw [List.foldl_cons, ih, List.filter_cons]
      cases slfB b with
      | true => simp
      | false => simp [addB_len]; omega
  unfold srtB
  rw [this]
  simp
def cmX (a b : List Bd) : List Bd := a.map (cm1 b) ++ b.filter fun x => (bget a x.1).isNone
theorem cmX_dist {a b : List Bd} (ha : vldB nmB a = true) (hb : vldB nmB b = true) : (cmX a b).Pairwise fun x y => x.1 ≠ y.1 := by
  have aa := (vldB_spec ha).2.1
  have ab := (vldB_spec hb).2.1
  unfold cmX
  rw [List.pairwise_append]
  refine ⟨?_, (asc_dist ab).filter _, fun x hx y hy => ?_⟩
  · rw [List.pairwise_map]
    exact asc_dist aa
  · obtain ⟨z, hz, rfl⟩ := List.mem_map.1 hx
    have hy2 := (List.mem_filter.1 hy).2
    intro e
    have := (bget_of (asc_dist aa) hz).1
    rw [show z.1 = y.1 from e] at this
    rw [this] at hy2
    cases hy2
theorem cmpF_bad {a b : List Bd} (h : (vldB nmB a && vldB nmB b) = false) : cmpF nmB a b = ([], 1) := by unfold cmpF; rw [if_pos h]
theorem cmpF_fail {a b : List Bd} {k : Nat} (hv : (vldB nmB a && vldB nmB b) = true) (hk : k < a.length) (h1 : ∀ j, j < k → (app1 nmB b (Go.Hw.bg a j).2.2).2 = 0) (h : (app1 nmB b (Go.Hw.bg a k).2.2).2 ≠ 0) : cmpF nmB a b = ([], (app1 nmB b (Go.Hw.bg a k).2.2).2) := by
  have e : a = a.take k ++ Go.Hw.bg a k :: a.drop (k + 1) := by
    rw [← bg_drop a k hk, List.take_append_drop]
  have h2 : cmpA nmB b a = ([], (app1 nmB b (Go.Hw.bg a k).2.2).2) := by
    rw [congrArg (cmpA nmB b) e]
    refine cmpA_fail (fun y hy => ?_) h
    obtain ⟨j, hj, rfl⟩ := List.getElem_of_mem hy
    rw [List.length_take] at hj
    have := h1 j (by omega)
    rw [bg_get (by omega)] at this
    rw [List.getElem_take]
    exact this
  unfold cmpF
  rw [if_neg (by rw [hv]; simp), h2, if_neg h]
theorem cmpF_full {a b : List Bd} (hv : (vldB nmB a && vldB nmB b) = true) (h1 : ∀ j, j < a.length → (app1 nmB b (Go.Hw.bg a j).2.2).2 = 0) : cmpF nmB a b = if 1000 < (srtB (cmX a b)).length then ([], 4) else (srtB (cmX a b), 0) := by
  have h2 : cmpA nmB b a = (a.map (cm1 b), 0) := cmpA_of (fun x hx => by
    obtain ⟨j, hj, rfl⟩ := List.getElem_of_mem hx
    have := h1 j hj
    rw [bg_get hj] at this
    exact this)
  unfold cmpF
  rw [if_neg (by rw [hv]; simp), h2, if_pos rfl]
  rfl
theorem srt_of {a b : List Bd} {L' : List Bd} (ha : vldB nmB a = true) (hb : vldB nmB b = true) (h1 : AscK (Prod.fst : Bd → By) L') (h2 : ∀ f, f ∈ L' ↔ f ∈ (cmX a b).filter fun b => !slfB b) : L' = srtB (cmX a b) := by
  obtain ⟨s1, s2⟩ := srtB_spec _ (cmX_dist ha hb)
  refine asc_uniq Prod.fst h1 s1 (fun x => ?_)
  rw [h2 x, s2 x, List.mem_filter]
  simp
theorem cmX_filter {a b : List Bd} (hb : vldB nmB b = true) : (cmX a b).filter (fun b => !slfB b) = (a.map (cm1 b)).filter (fun b => !slfB b) ++ b.filter fun x => (bget a x.1).isNone := by
  unfold cmX
  rw [List.filter_append]
  congr 1
  rw [List.filter_filter]
  refine List.filter_congr (fun x hx => ?_)
  rw [slf_of_vld nmB_nul hb hx]
  simp

end Go.Proofs.YtlkcjmaiahnodaaGreatDoor

/- Compose, of unify. -/
namespace Go.Proofs.YtlkcjmaiahnodaaGreatDoor
open Go.RowKit Go.Hw Go
set_option linter.unusedVariables false
set_option linter.unusedSimpArgs false

open Tm Go.Sort Go.Proofs Go.ChangeMaps
set_option maxRecDepth 100000 in
set_option maxHeartbeats 2000000 in
theorem compose_x (a b : List Bd) (va vb : Value) (w : World) (htab : AscT w) (hA : BnR (fun k => k < w.heap.size) (fun k => k < w.heap.size) w va a) (hB : BnR (fun k => k < w.heap.size) (fun k => k < w.heap.size) w vb b) (hla : a.length ≤ 1000000) (hlb : b.length ≤ 1000000) (hsa : ∀ x ∈ a, (x.2.2.size : Int) ≤ 1000000000000) (hsb : ∀ x ∈ b, (x.2.2.size : Int) ≤ 1000000000000) :
    Calls Tryz.prog 33 #[va, vb] w fun e w' => ∃ r, e = .returned (.tuple #[r, .int .i64 (cmpF nmB a b).2]) ∧ BnR (fun k => w.heap.size ≤ k ∧ k < w'.heap.size) (fun k => w.heap.size ≤ k ∧ k < w'.heap.size) w' r (cmpF nmB a b).1 ∧ Ext w w' := by
  obtain ⟨Z, hZZ⟩ : ∃ Z, cmpF nmB a b = Z := ⟨_, rfl⟩
  rw [hZZ]
  have HZZ := Lib.hid hZZ
  have HTAB := Lib.hid htab
  have HAA := Lib.hid hA
  have HBB := Lib.hid hB
  have hbA : ∀ W, Ext w W → BnR (fun k => k < W.heap.size) (fun k => k < W.heap.size) W va a := fun W hW => (hA.ext hW).weaken (fun k hk => Nat.lt_of_lt_of_le hk hW.size) (fun k hk => Nat.lt_of_lt_of_le hk hW.size)
  have hbB : ∀ W, Ext w W → BnR (fun k => k < W.heap.size) (fun k => k < W.heap.size) W vb b := fun W hW => (hB.ext hW).weaken (fun k hk => Nat.lt_of_lt_of_le hk hW.size) (fun k hk => Nat.lt_of_lt_of_le hk hW.size)
  have HVA := Lib.hid (fun W (hW : Ext w W) => valid_x a va W (asc_ext htab hW) (hbA W hW) hla hsa)
  have HVB := Lib.hid (fun W (hW : Ext w W) => valid_x b vb W (asc_ext htab hW) (hbB W hW) hlb hsb)
  obtain ⟨aa, ac, rfl⟩ := hA.shape
  obtain ⟨ba, bc, rfl⟩ := hB.shape
  obtain ⟨b1, hb1⟩ : ∃ b1, vldB nmB a = b1 := ⟨_, rfl⟩
  obtain ⟨b2, hb2⟩ : ∃ b2, vldB nmB b = b2 := ⟨_, rfl⟩
  rw [hb1] at HVA
  rw [hb2] at HVB
  have HB1 := Lib.hid hb1
  have HB2 := Lib.hid hb2
  clear hZZ htab hA hB hbA hbB hsa hsb hb1 hb2
  go_enter Tryz.func33, Tryz.ntmps33
  go_wp2_with fail
  refine (HVA.out _ (Upd.refl _ _)).mono ?_
  rintro e w3 ⟨rfl, hw3⟩
  have HE3 := Lib.hid hw3
  clear hw3 HVA
  cases b1
  · obtain rfl : Z = ([], 1) := by rw [← HZZ.out]; exact cmpF_bad (by rw [HB1.out]; rfl)
    go_wp2_with fail
    all_goals go_ret2
    all_goals exact ⟨_, rfl, BnR.nil _ _ _, HE3.out⟩
  go_wp2_with fail
  refine (HVB.out _ HE3.out).mono ?_
  rintro e w4 ⟨rfl, hw4⟩
  have HE4 := Lib.hid (HE3.out.trans hw4)
  clear hw4 HVB HE3
  cases b2
  · obtain rfl : Z = ([], 1) := by rw [← HZZ.out]; exact cmpF_bad (by rw [HB2.out]; simp)
    go_wp2_with fail
    all_goals go_ret2
    all_goals exact ⟨_, rfl, BnR.nil _ _ _, HE4.out⟩
  have HVV : Hid ((vldB nmB a && vldB nmB b) = true) := Lib.hid (by rw [HB1.out, HB2.out]; rfl)
  have hla2 := (vldB_spec HB1.out).1
  have hlb2 := (vldB_spec HB2.out).1
  clear hla hlb
  go_wp2_with fail
  go_loopg [6, 25] a.length (fun gk ov iv wr => ∃ (k : Nat) (oa : Option Addr) (oc : Nat) (L : List Be), ov = .slice oa L.length oc ∧ iv = .int .i64 (k : Int) ∧ gk = a.length - k ∧ k ≤ a.length ∧ L.length ≤ k ∧ Hid (GaR w.heap.size wr (.slice oa L.length oc) L) ∧ Hid (Ext w wr) ∧ Hid (∀ j, j < k → (app1 nmB b (Go.Hw.bg a j).2.2).2 = 0) ∧ Hid (L.map (·.1) = ((a.take k).map (cm1 b)).filter fun f => !slfB f))
  case atStart => exact ⟨0, none, 0, [], rfl, rfl, rfl, Nat.zero_le _, Nat.le_refl _, Lib.hid (GaR.start _ _), HE4, Lib.hid (fun j hj => absurd hj (Nat.not_lt_zero _)), Lib.hid (by simp)⟩
  case round =>
    obtain ⟨k, oa, oc, L, rfl, rfl, rfl, hk, hLk, HG, HE, HOK, HLF⟩ := hrel
    by_cases hlt : k < a.length
    · obtain ⟨g, off, hga, _, hat⟩ := (HAA.out.ext HE.out).at_ (by omega)
      subst hga
      obtain ⟨xa, xc, p0, p1, p2, p3, p4, hkid⟩ := hat k hlt
      have z0 : (0 : Int) ≤ (k : Int) := by omega
      have z1 : (k : Int) < (a.length : Int) := by omega
      have z2 : decide ((k : Int) < (a.length : Int)) = true := decide_eq_true z1
      have z2' : decide (k < a.length) = true := decide_eq_true hlt
      have hxm := bg_mem hlt
      have hwx := ((vldB_spec HB1.out).2.2 _ hxm).2.2.1
      have htk := bg_take a k hlt
      have hap := uapply_x b (Go.Hw.bg a k).2.2 (.slice ba b.length bc) (tV (Go.Hw.bg a k).2.2 (.slice xa (Go.Hw.bg a k).2.2.kids.length xc)) (fun j => j < w.heap.size) (fun j => j < w.heap.size)
      have hbad : (app1 nmB b (Go.Hw.bg a k).2.2).2 ≠ 0 → Z = ([], (app1 nmB b (Go.Hw.bg a k).2.2).2) := fun h => by rw [← HZZ.out]; exact cmpF_fail HVV.out hlt HOK.out h
      have hgood : (app1 nmB b (Go.Hw.bg a k).2.2).2 = 0 → ∀ j, j < k + 1 → (app1 nmB b (Go.Hw.bg a j).2.2).2 = 0 := fun h j hj => by
        rcases Nat.lt_succ_iff_lt_or_eq.1 hj with h5 | h5
        · exact HOK.out j h5
        · rw [h5]; exact h
      obtain ⟨x, hx⟩ : ∃ x, Go.Hw.bg a k = x := ⟨_, rfl⟩
      rw [hx] at p0 p1 p2 p3 p4 hkid hxm hwx htk hap hbad hgood
      have hX5 := (Upd.refl (fun _ => False) wr).alloc (.cells #[.string x.1, .string x.2.1, .string x.2.2.name, .string x.2.2.sort, .slice xa x.2.2.kids.length xc] 93)
      have HBAD := Lib.hid hbad
      have HGOOD := Lib.hid hgood
      have HTK := Lib.hid htk
      have HXM := Lib.hid hxm
      have HB5 := Lib.hid (alloc0 wr (.cells #[.string x.1, .string x.2.1, .string x.2.2.name, .string x.2.2.sort, .slice xa x.2.2.kids.length xc] 93))
      have HX5 := Lib.hid hX5
      have HE5 := Lib.hid (HE.out.trans hX5)
      have HAP := Lib.hid (hap (wr.alloc (.cells #[.string x.1, .string x.2.1, .string x.2.2.name, .string x.2.2.sort, .slice xa x.2.2.kids.length xc] 93)) (asc_ext HTAB.out HE5.out) (HBB.out.ext HE5.out) (fun j hj => Nat.lt_of_lt_of_le hj HE5.out.size) ⟨xa, xc, rfl, (hkid.ext hX5).weaken (fun j hj => Nat.lt_of_lt_of_le hj HE5.out.size)⟩ HB2.out hwx)
      have y0 := cellRow HB5.out 0 (.string x.1) rfl
      have y1 := cellRow HB5.out 1 (.string x.2.1) rfl
      have y2 := cellRow HB5.out 2 (.string x.2.2.name) rfl
      have y3 := cellRow HB5.out 3 (.string x.2.2.sort) rfl
      have y4 := cellRow HB5.out 4 (.slice xa x.2.2.kids.length xc) rfl
      dsimp only [tV] at HAP
      obtain ⟨AP, hAP⟩ : ∃ P, app1 nmB b x.2.2 = P := ⟨_, rfl⟩
      rw [hAP] at HAP HBAD HGOOD
      have HAPE := Lib.hid hAP
      obtain ⟨z, en⟩ := AP
      simp only at HAP HBAD HGOOD
      clear hat hkid hxm hwx htk hap hbad hgood hx hX5 hAP
      go_wp2_with fail
      generalize hw5 : wr.alloc (.cells #[.string x.1, .string x.2.1, .string x.2.2.name, .string x.2.2.sort, .slice xa x.2.2.kids.length xc] 93) = w5 at *
      refine HAP.out.mono ?_
      rintro e w6 ⟨r6, B6, rfl, hT6, hb6, hw6⟩
      obtain ⟨ya, yc, hry⟩ := TlO.shape hT6
      subst hry
      have hX7 := hw6.alloc (.cells #[.string z.name, .string z.sort, .slice ya z.kids.length yc] 24)
      have HE7 := Lib.hid (HE5.out.trans hX7)
      have HX7 := Lib.hid (HX5.out.trans hX7)
      have HB7 := Lib.hid (hX7.heap HB5.out (fun h => h))
      have HC7 := Lib.hid (alloc0 w6 (.cells #[.string z.name, .string z.sort, .slice ya z.kids.length yc] 24))
      have HT7 := Lib.hid (hT6.read.ext ((Upd.refl (fun _ => False) w6).alloc (.cells #[.string z.name, .string z.sort, .slice ya z.kids.length yc] 24)))
      have HBX7 : Hid (∀ j, B6 j → wr.heap.size ≤ j ∧ j < (w6.alloc (.cells #[.string z.name, .string z.sort, .slice ya z.kids.length yc] 24)).heap.size) := Lib.hid (fun j hj => ⟨Nat.le_trans HX5.out.size (hb6 j hj).1, Nat.lt_of_lt_of_le (hb6 j hj).2 ((Upd.refl (fun _ => False) w6).alloc (.cells #[.string z.name, .string z.sort, .slice ya z.kids.length yc] 24)).size⟩)
      dsimp only [tV]
      clear hT6 hb6 hw6 hX7 HAP y0 y1 y2 y3 y4 p0 p1 p2 p3 p4 HB5
      by_cases hen : en = 0
      rotate_left
      · have t1 : (en == 0) = false := beq_eq_false_iff_ne.2 hen
        have t2 : decide (en = 0) = false := decide_eq_false hen
        obtain rfl : Z = ([], en) := HBAD.out hen
        clear hen
        go_wp2_with fail
        all_goals go_ret2
        all_goals exact ⟨_, rfl, BnR.nil _ _ _, HE7.out⟩
      subst hen
      have HOK2 := Lib.hid (HGOOD.out rfl)
      have hcm := cm_self HB1.out HB2.out HXM.out HAPE.out
      have hcz : cm1 b x = (x.1, x.2.1, z) := by unfold cm1; rw [(app1_ok HAPE.out).2.1]
      have HCZ := Lib.hid hcz
      have HIS := Lib.hid (fun W => is_x z ya yc x.1 x.2.1 W)
      have hsf : isB z x.1 x.2.1 = slfB (x.1, x.2.1, z) := hcm.1
      rw [hsf] at HIS
      have HTK2 : Hid (((a.take (k + 1)).map (cm1 b)).filter (fun f => !slfB f) = L.map (·.1) ++ (if slfB (x.1, x.2.1, z) = true then [] else [(x.1, x.2.1, z)])) := Lib.hid (by
        rw [HTK.out, List.map_append, List.filter_append, HLF.out, List.map_singleton, hcz]
        congr 1
        cases hs : slfB (x.1, x.2.1, z) <;> simp [List.filter, hs])
      obtain ⟨sf, hsf⟩ : ∃ b, slfB (x.1, x.2.1, z) = b := ⟨_, rfl⟩
      rw [hsf] at HIS HTK2
      dsimp only [tV] at HIS
      clear hcm hcz hsf HBAD HGOOD
      have y0 := cellRow HB7.out 0 (.string x.1) rfl
      have y1 := cellRow HB7.out 1 (.string x.2.1) rfl
      have y2 := cellRow HB7.out 2 (.string x.2.2.name) rfl
      have y3 := cellRow HB7.out 3 (.string x.2.2.sort) rfl
      have y4 := cellRow HB7.out 4 (.slice xa x.2.2.kids.length xc) rfl
      have u0 := cellRow HC7.out 0 (.string z.name) rfl
      have u1 := cellRow HC7.out 1 (.string z.sort) rfl
      have u2 := cellRow HC7.out 2 (.slice ya z.kids.length yc) rfl
      obtain ⟨nb, hnb⟩ : ∃ n, wr.heap.size = n := ⟨_, rfl⟩
      rw [hnb] at y0 y1 y2 y3 y4
      try rw [hnb]
      have HNB := Lib.hid hnb
      clear hnb
      go_wp2_with fail
      generalize hw7 : w6.alloc (.cells #[.string z.name, .string z.sort, .slice ya z.kids.length yc] 24) = w7 at *
      obtain ⟨nz, hnz⟩ : ∃ n, w6.heap.size = n := ⟨_, rfl⟩
      rw [hnz] at u0 u1 u2 HC7
      try rw [hnz]
      clear hnz
      refine (HIS.out _).mono ?_
      rintro e w8 ⟨rfl, hw8⟩
      have HE8 := Lib.hid (HE7.out.trans hw8)
      have HX8 := Lib.hid (HX7.out.trans hw8)
      have HB8 := Lib.hid (hw8.heap HB7.out (fun h => h))
      have HC8 := Lib.hid (hw8.heap HC7.out (fun h => h))
      have HT8 := Lib.hid (HT7.out.ext hw8)
      have HBX8 : Hid (∀ j, B6 j → wr.heap.size ≤ j ∧ j < w8.heap.size) := Lib.hid (fun j hj => ⟨(HBX7.out j hj).1, Nat.lt_of_lt_of_le (HBX7.out j hj).2 hw8.size⟩)
      clear hw8 HIS y0 y1 y2 y3 y4 u0 u1 u2
      cases sf with
      | true =>
        have HLF2 : Hid (L.map (·.1) = ((a.take (k + 1)).map (cm1 b)).filter fun f => !slfB f) := Lib.hid (by rw [HTK2.out]; simp)
        have HG8 := Lib.hid (HG.out.kept HX8.out (fun _ _ _ h => h))
        go_wp2_with fail
        go_roundg (a.length - (k + 1))
        case measure => omega
        case rel => exact ⟨k + 1, oa, oc, L, rfl, by go_num, rfl, by omega, by omega, HG8, HE8, HOK2, HLF2⟩
      | false =>
        have HB8' := HB8.out
        rw [HNB.out] at HB8'
        have y0 := cellRow HB8' 0 (.string x.1) rfl
        have y1 := cellRow HB8' 1 (.string x.2.1) rfl
        have y2 := cellRow HB8' 2 (.string x.2.2.name) rfl
        have y3 := cellRow HB8' 3 (.string x.2.2.sort) rfl
        have y4 := cellRow HB8' 4 (.slice xa x.2.2.kids.length xc) rfl
        have u0 := cellRow HC8.out 0 (.string z.name) rfl
        have u1 := cellRow HC8.out 1 (.string z.sort) rfl
        have u2 := cellRow HC8.out 2 (.slice ya z.kids.length yc) rfl
        have HOW8 := Lib.hid ((own_kept HG.out.own HX8.out (fun _ _ h => h)).alloc (.cells #[.string x.1, .string x.2.1, .string z.name, .string z.sort, .slice ya z.kids.length yc] 93))
        have hsz8 : w.heap.size ≤ (w8.alloc (.cells #[.string x.1, .string x.2.1, .string z.name, .string z.sort, .slice ya z.kids.length yc] 93)).heap.size := Nat.le_trans HE8.out.size ((Upd.refl (fun _ => False) w8).alloc (.cells #[.string x.1, .string x.2.1, .string z.name, .string z.sort, .slice ya z.kids.length yc] 93)).size
        obtain ⟨iT, hi, hz0, hz1, hz2⟩ := info_parts infoBd
        clear HB8'
        go_wp2_with (at_builtin; refine wpList_append_at _ rfl (.tmp 46) (.tmp 53) 27 rfl w.heap.size 93 iT (.agg #[.string ⟨#[]⟩, .string ⟨#[]⟩, .string ⟨#[]⟩, .string ⟨#[]⟩, .slice none 0 0]) 5 88 Tryz.underlying27 hi hz0 hz1 hz2 rfl (by decide) _ _ _ rfl HOW8.out _ 1 1 [Value.string x.1, .string x.2.1, .string z.name, .string z.sort, .slice ya z.kids.length yc] rfl rfl ?c1 ?c2 ?c3 ?c4 hsz8 ?_)
        case c1 => exact new5 w8 _ _ _ _ _ 93
        case c2 => intro u hu; simp at hu; rcases hu with h | h | h | h | h <;> (subst h; rfl)
        case c3 => unfold maxLen; omega
        case c4 => omega
        intro v9 w9 hG9
        obtain ⟨a9, c9, hv9⟩ := own_shape hG9.own
        subst hv9
        have hlen : (L ++ [((x.1, x.2.1, z), ya, z.kids.length, yc)]).length = L.length + 1 := by simp
        have HG9 := Lib.hid (HG.out.grow HE.out.size HX8.out (x := ((x.1, x.2.1, z), ya, z.kids.length, yc)) HT8.out HBX8.out hG9)
        have HU9 : Hid (Upd (fun j => (Value.slice oa L.length oc).ownBlock = some j) w8 w9) := Lib.hid ((((Upd.refl (fun _ => False) w8).alloc (.cells #[.string x.1, .string x.2.1, .string z.name, .string z.sort, .slice ya z.kids.length yc] 93)).mono (fun _ _ x => x.elim)).trans hG9.upd)
        have HE9 : Hid (Ext w w9) := Lib.hid (HE8.out.trans' HU9.out (fun j hj e => by have h1 := (HG.out.own.lt j e).1; omega))
        have HLF2 : Hid ((L ++ [((x.1, x.2.1, z), ya, z.kids.length, yc)]).map (·.1) = ((a.take (k + 1)).map (cm1 b)).filter fun f => !slfB f) := Lib.hid (by rw [HTK2.out, List.map_append]; simp)
        rw [← hlen] at HG9 ⊢
        clear hG9 hi hz0 hz1 hz2 hsz8 y0 y1 y2 y3 y4 u0 u1 u2
        go_wp2_with fail
        go_roundg (a.length - (k + 1))
        case measure => omega
        case rel => exact ⟨k + 1, a9, c9, _, rfl, by go_num, rfl, by omega, by rw [hlen]; omega, HG9, HE9, HOK2, HLF2⟩
    · obtain rfl : k = a.length := by omega
      have z2 : decide ((a.length : Int) < (a.length : Int)) = false := decide_eq_false (by omega)
      have hfull := cmpF_full HVV.out HOK.out
      rw [HZZ.out] at hfull
      have HFULL := Lib.hid hfull
      have HLA : Hid (L.map (·.1) = (a.map (cm1 b)).filter fun f => !slfB f) := Lib.hid (by rw [HLF.out, List.take_length])
      obtain ⟨L0, hL0⟩ : ∃ L0, L = L0 := ⟨_, rfl⟩
      subst hL0
      have HE0 := HE
      clear hfull HLF HE4
      go_wp2_with fail
      go_loopg [6, 58] b.length (fun gk ov iv wr2 => ∃ (k : Nat) (oa : Option Addr) (oc : Nat) (L2 : List Be), ov = .slice oa L2.length oc ∧ iv = .int .i64 (k : Int) ∧ gk = b.length - k ∧ k ≤ b.length ∧ L2.length ≤ a.length + k ∧ Hid (GaR w.heap.size wr2 (.slice oa L2.length oc) L2) ∧ Hid (Ext w wr2) ∧ Hid (L2.map (·.1) = L.map (·.1) ++ ((b.take k).filter fun x => (bget a x.1).isNone)))
      case atStart => exact ⟨0, oa, oc, L, rfl, rfl, rfl, Nat.zero_le _, by omega, HG, HE, Lib.hid (by simp)⟩
      case round =>
        clear HG HE0
        rename_i hrel0
        obtain ⟨k, oa, oc, L2, rfl, rfl, rfl, hk, hLk, HG, HE, HLF⟩ := hrel
        by_cases hlt : k < b.length
        · obtain ⟨g, off, hga, _, hat⟩ := (HBB.out.ext HE.out).at_ (by omega)
          subst hga
          obtain ⟨xa, xc, p0, p1, p2, p3, p4, hkid⟩ := hat k hlt
          have z0 : (0 : Int) ≤ (k : Int) := by omega
          have z1 : (k : Int) < (b.length : Int) := by omega
          have z2 : decide ((k : Int) < (b.length : Int)) = true := decide_eq_true z1
          have z2' : decide (k < b.length) = true := decide_eq_true hlt
          have htk := bg_take b k hlt
          have hwx := wf_size ((vldB_spec HB2.out).2.2 _ (bg_mem hlt)).2.2.1
          obtain ⟨x, hx⟩ : ∃ x, Go.Hw.bg b k = x := ⟨_, rfl⟩
          rw [hx] at p0 p1 p2 p3 p4 hkid htk hwx
          have hX5 := (Upd.refl (fun _ => False) wr).alloc (.cells #[.string x.1, .string x.2.1, .string x.2.2.name, .string x.2.2.sort, .slice xa x.2.2.kids.length xc] 93)
          have HB5 := Lib.hid (alloc0 wr (.cells #[.string x.1, .string x.2.1, .string x.2.2.name, .string x.2.2.sort, .slice xa x.2.2.kids.length xc] 93))
          have HX5 := Lib.hid hX5
          have HE5 := Lib.hid (HE.out.trans hX5)
          have HKD := Lib.hid hkid
          have HWX := Lib.hid hwx
          have HBS := Lib.hid (bsB_x a (.slice aa a.length ac) x.1 _ _ (wr.alloc (.cells #[.string x.1, .string x.2.1, .string x.2.2.name, .string x.2.2.sort, .slice xa x.2.2.kids.length xc] 93)) (HAA.out.ext HE5.out) (vldB_spec HB1.out).2.1 (by omega))
          have htk2 : (b.take (k + 1)).filter (fun x => (bget a x.1).isNone) = (b.take k).filter (fun x => (bget a x.1).isNone) ++ (if (bget a x.1).isSome = true then [] else [x]) := by
            rw [htk, List.filter_append]
            congr 1
            cases hb : bget a x.1 <;> simp [List.filter, hb]
          have HTK2 := Lib.hid htk2
          obtain ⟨F, hF⟩ : ∃ F, (bget a x.1).isSome = F := ⟨_, rfl⟩
          rw [hF] at HBS HTK2
          have y0 := cellRow HB5.out 0 (.string x.1) rfl
          have y1 := cellRow HB5.out 1 (.string x.2.1) rfl
          have y2 := cellRow HB5.out 2 (.string x.2.2.name) rfl
          have y3 := cellRow HB5.out 3 (.string x.2.2.sort) rfl
          have y4 := cellRow HB5.out 4 (.slice xa x.2.2.kids.length xc) rfl
          clear hat hkid htk htk2 hwx hx hX5 hF
          go_wp2_with fail
          generalize hw5 : wr.alloc (.cells #[.string x.1, .string x.2.1, .string x.2.2.name, .string x.2.2.sort, .slice xa x.2.2.kids.length xc] 93) = w5 at *
          obtain ⟨nb, hnb⟩ : ∃ n, wr.heap.size = n := ⟨_, rfl⟩
          rw [hnb] at y0 y1 y2 y3 y4 HB5
          try rw [hnb]
          clear hnb
          refine HBS.out.mono ?_
          rintro e w6 ⟨rfl, hw6⟩
          have HE6 := Lib.hid (HE5.out.trans hw6)
          have HX6 := Lib.hid (HX5.out.trans hw6)
          have HB6 := Lib.hid (hw6.heap HB5.out (fun h => h))
          have HG6 := Lib.hid (HG.out.kept HX6.out (fun _ _ _ h => h))
          clear hw6 HBS y0 y1 y2 y3 y4 p0 p1 p2 p3 p4 HB5
          cases F with
          | true =>
            have HLF2 : Hid (L2.map (·.1) = L.map (·.1) ++ ((b.take (k + 1)).filter fun x => (bget a x.1).isNone)) := Lib.hid (by rw [HTK2.out, HLF.out]; simp)
            go_wp2_with fail
            go_roundg (b.length - (k + 1))
            case measure => omega
            case rel => exact ⟨k + 1, oa, oc, L2, rfl, by go_num, rfl, by omega, by omega, HG6, HE6, HLF2⟩
          | false =>
            have y0 := cellRow HB6.out 0 (.string x.1) rfl
            have y1 := cellRow HB6.out 1 (.string x.2.1) rfl
            have y2 := cellRow HB6.out 2 (.string x.2.2.name) rfl
            have y3 := cellRow HB6.out 3 (.string x.2.2.sort) rfl
            have y4 := cellRow HB6.out 4 (.slice xa x.2.2.kids.length xc) rfl
            have HCP := Lib.hid (fun W (hW : Ext w6 W) => ucopied_x x.2.2 (tV x.2.2 (.slice xa x.2.2.kids.length xc)) (fun j => j < w.heap.size) W ⟨xa, xc, rfl, HKD.out.ext (HX6.out.trans hW)⟩ (fun j hj => Nat.lt_of_lt_of_le hj (Nat.le_trans HE6.out.size hW.size)) (by have := HWX.out; omega))
            dsimp only [tV] at HCP
            have HW5 : Hid (Ext w6 w6) := Lib.hid (Upd.refl _ _)
            have HLL : Hid (L2.length ≤ 2000) := Lib.hid (by omega)
            obtain ⟨iT, hi, hz0, hz1, hz2⟩ := info_parts infoBd
            go_wp2_with fail
            go_region_law (first
              | (refine step_append_at _ (.tmp 71) (.tmp 80) 27 rfl w.heap.size 93 iT (.agg #[.string ⟨#[]⟩, .string ⟨#[]⟩, .string ⟨#[]⟩, .string ⟨#[]⟩, .slice none 0 0]) 5 88 Tryz.underlying27 hi hz0 hz1 hz2 rfl (by decide) _ _ _ rfl HOW6.out _ 1 1 [Value.string x.1, .string x.2.1, .string x.2.2.name, .string x.2.2.sort, .slice ya x.2.2.kids.length yc] rfl rfl HNEW.out HONE.out HLM.out.1 HLM.out.2.1 HLM.out.2.2 ?_; intro v7 w8 hG7; obtain ⟨a7, c7, hv7⟩ := own_shape hG7.own; subst hv7; have HG7 := Lib.hid hG7; clear hG7)
              | (go_simp; refine (HCP.out w6.drew HW5.out.drew).mono ?_; rintro e3 w7 ⟨r, Bx, rfl, hT6, hb6, hw6⟩; obtain ⟨ya, yc, hry⟩ := TlO.shape hT6; subst hry; have HW6 : Hid (Ext w6 w7) := Lib.hid (((Upd.refl (fun _ => False) w6).drewN' 1).trans hw6); have HT6 := Lib.hid hT6.read; have HBX6 : Hid (∀ j, Bx j → w6.heap.size ≤ j ∧ j < w7.heap.size) := Lib.hid hb6; have HOW6 : Hid ((w7.alloc (.cells #[.string x.1, .string x.2.1, .string x.2.2.name, .string x.2.2.sort, .slice ya x.2.2.kids.length yc] 93)).ownsRow w.heap.size 93 5 (.slice oa L2.length oc) L2.length (L2.flatMap beEnc)) := Lib.hid ((own_kept HG6.out.own HW6.out (fun _ _ h => h)).alloc _); have HNEW : Hid (∀ (j : Nat) (u : Value), [Value.string x.1, .string x.2.1, .string x.2.2.name, .string x.2.2.sort, .slice ya x.2.2.kids.length yc][j]? = some u → (w7.alloc (.cells #[.string x.1, .string x.2.1, .string x.2.2.name, .string x.2.2.sort, .slice ya x.2.2.kids.length yc] 93)).cell? ((⟨w7.heap.size, 0, none⟩ : Addr).add j) = some u) := Lib.hid (new5 w7 _ _ _ _ _ 93); have HONE : Hid (∀ u ∈ [Value.string x.1, .string x.2.1, .string x.2.2.name, .string x.2.2.sort, .slice ya x.2.2.kids.length yc], u.oneCell' = true) := Lib.hid (fun u hu => by simp at hu; rcases hu with h | h | h | h | h <;> (subst h; rfl)); have HLM : Hid (L2.length + 1 ≤ maxLen ∧ (L2.length + 1) * 88 ≤ 140737488355328 ∧ w.heap.size ≤ (w7.alloc (.cells #[.string x.1, .string x.2.1, .string x.2.2.name, .string x.2.2.sort, .slice ya x.2.2.kids.length yc] 93)).heap.size) := Lib.hid ⟨by unfold maxLen; have := HLL.out; omega, by have := HLL.out; omega, by have h1 := HW6.out.size; have h2 := HE6.out.size; simp; omega⟩; have d0 := HW6.out.cell y0 (fun h => h); have d1 := HW6.out.cell y1 (fun h => h); have d2 := HW6.out.cell y2 (fun h => h); have d3 := HW6.out.cell y3 (fun h => h); have d4 := HW6.out.cell y4 (fun h => h); clear hT6 hb6 hw6 HCP))
            all_goals
              go_wp2_with fail
              try go_frame
              have hlen : (L2 ++ [((x, ya, x.2.2.kids.length, yc) : Be)]).length = L2.length + 1 := by simp
              have HG8 := Lib.hid (HG6.out.grow HE6.out.size HW6.out (x := (x, ya, x.2.2.kids.length, yc)) HT6.out HBX6.out HG7.out)
              have HU8 : Hid (Upd (fun j => (Value.slice oa L2.length oc).ownBlock = some j) w6 w8) := Lib.hid (((HW6.out.alloc (.cells #[.string x.1, .string x.2.1, .string x.2.2.name, .string x.2.2.sort, .slice ya x.2.2.kids.length yc] 93)).mono (fun _ _ x => x.elim)).trans HG7.out.upd)
              have HE8 : Hid (Ext w w8) := Lib.hid (HE6.out.trans' HU8.out (fun j hj e => by have h1 := (HG6.out.own.lt j e).1; omega))
              have HLF2 : Hid ((L2 ++ [((x, ya, x.2.2.kids.length, yc) : Be)]).map (·.1) = L.map (·.1) ++ ((b.take (k + 1)).filter fun x => (bget a x.1).isNone)) := Lib.hid (by rw [HTK2.out, List.map_append, HLF.out]; simp)
              rw [← hlen] at HG8 ⊢
              clear hi hz0 hz1 hz2
              go_roundg (b.length - (k + 1))
              case measure => omega
              case rel => exact ⟨k + 1, a7, c7, _, rfl, by go_num, rfl, by omega, by rw [hlen]; omega, HG8, HE8, HLF2⟩
        · obtain rfl : k = b.length := by omega
          have z2 : decide ((b.length : Int) < (b.length : Int)) = false := decide_eq_false (by omega)
          have hfil : L2.map (·.1) = (cmX a b).filter fun f => !slfB f := by
            rw [HLF.out, List.take_length, HLA.out, cmX_filter HB2.out]
          have hlq : L2.length = (srtB (cmX a b)).length := by
            rw [srtB_len, ← hfil, List.length_map]
          have hfu := HFULL.out
          rw [← hlq] at hfu
          have HFIL := Lib.hid hfil
          by_cases hbig : 1000 < L2.length
          · have t1 : decide ((1000 : Int) < (L2.length : Int)) = true := decide_eq_true (by omega)
            have t1' : (1000 : Int) < (L2.length : Int) := by omega
            obtain rfl : Z = ([], 4) := by rw [hfu, if_pos hbig]
            clear hfil hlq hfu hbig
            go_wp2_with fail
            all_goals go_ret2
            all_goals exact ⟨_, rfl, BnR.nil _ _ _, HE.out⟩
          have t1 : decide ((1000 : Int) < (L2.length : Int)) = false := decide_eq_false (by omega)
          have t1' : ¬ (1000 : Int) < (L2.length : Int) := by omega
          rw [if_neg hbig] at hfu
          have HFU := Lib.hid hfu
          have hdist : L2.Pairwise fun x y => x.1.1 ≠ y.1.1 := by
            have h1 := (cmX_dist HB1.out HB2.out).filter (fun f => !slfB f)
            rw [← hfil, List.pairwise_map] at h1
            exact h1
          have HST := Lib.hid (fun W (hW : Ext wr W) => sortB98_x L2 w.heap.size (.slice oa L2.length oc) W (own_kept HG.out.own hW (fun _ _ h => h)) hdist (by omega))
          clear hfil hlq hfu hbig hdist
          go_wp2_with fail
          refine (HST.out _ (Upd.refl _ _)).mono ?_
          rintro e w8 ⟨rfl, L', ha, hperm, hF, hu⟩
          have HBN := Lib.hid (HG.out.bn hperm hF hu)
          have hls : L'.map (·.1) = srtB (cmX a b) := srt_of HB1.out HB2.out (by
            unfold AscK at ha ⊢
            rw [List.pairwise_map]
            exact ha) (fun f => by rw [(hperm.map (·.1)).mem_iff, HFIL.out])
          rw [hls] at HBN
          have hL' : L'.length = L2.length := hperm.length_eq
          have HE8 : Hid (Ext w w8) := Lib.hid (HE.out.trans' hu (fun j hj e => by have h1 := (HG.out.own.lt j e).1; omega))
          clear ha hperm hF hu HST hls
          go_wp2_with fail
          go_ret2
          have hzz := HFU.out
          subst hzz
          exact ⟨_, rfl, HBN.out, HE8.out⟩

end Go.Proofs.YtlkcjmaiahnodaaGreatDoor

/- add, of the reference. -/
namespace Go.Proofs.YtlkcjmaiahnodaaGreatDoor
open Go.RowKit Go.Hw Go
set_option linter.unusedVariables false
set_option linter.unusedSimpArgs false

open Tm Go.Sort Go.Proofs Go.ChangeMaps
end Go.Proofs.YtlkcjmaiahnodaaGreatDoor
