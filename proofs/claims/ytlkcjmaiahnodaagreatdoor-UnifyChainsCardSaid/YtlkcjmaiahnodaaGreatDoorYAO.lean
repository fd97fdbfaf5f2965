/- The texts N35 N36 N37 N38 N39 N40 N41, one behind the other. -/
import Derived.Test.YtlkcjmaiahnodaaGreatDoorYAN
import Derived.Test.YtlkcjmaiahnodaaGreatDoorYAM
/- Valid, of the reference. -/
namespace Go.Proofs.YtlkcjmaiahnodaaGreatDoor
open Go.RowKit Go.Hw Go
set_option linter.unusedVariables false
set_option linter.unusedSimpArgs false

open Tm Go.Sort Go.Proofs Go.ChangeMaps
end Go.Proofs.YtlkcjmaiahnodaaGreatDoor

/- Size and Depth. -/
namespace Go.Proofs.YtlkcjmaiahnodaaGreatDoor
open Go.RowKit Go.Hw Go
set_option linter.unusedVariables false
set_option linter.unusedSimpArgs false

open Tm Go.Sort Go.Proofs Go.ChangeMaps
theorem depths_take (L : List Tm) (k : Nat) (h : k < L.length) : depths (L.take (k + 1)) = max (depths (L.take k)) (tg L k).depth := by
  have : L.take (k + 1) = L.take k ++ [tg L k] := by
    rw [List.take_add_one]
    congr 1
    unfold tg
    rw [List.getD_eq_getElem?_getD, List.getElem?_eq_getElem h]
    rfl
  rw [this, depths_append]
  simp [depths]
set_option maxRecDepth 100000 in
set_option maxHeartbeats 2000000 in
theorem Depth_x (t : Tm) (v : Value) (w : World) (htab : AscT w) (hR : TmR (fun k => k < w.heap.size) w t v) (hsz : (t.size : Int) ≤ 1000000000000) : Calls Tryz.prog 154 #[v] w fun e w' => e = .returned (.int .i64 (dpF t : Nat)) ∧ Ext w w' := by
  have HR := Lib.hid hR
  obtain ⟨a, cap, rfl, hT⟩ := hR
  dsimp only [tV]
  have HZ := Lib.hid ((Upd.refl (fun _ => False) w).alloc (.cells #[.string t.name, .string t.sort, .slice a t.kids.length cap] 24))
  have hb := alloc0 w (.cells #[.string t.name, .string t.sort, .slice a t.kids.length cap] 24)
  have HF := Lib.hid (fun W (hW : Ext w W) => size_x t _ W (asc_ext htab hW) ((HR.out.ext hW).weaken (fun k hk => Nat.lt_of_lt_of_le hk hW.size)) hsz)
  dsimp only [tV] at HF
  have c0 := cellRow hb 0 (.string t.name) rfl
  have c1 := cellRow hb 1 (.string t.sort) rfl
  have c2 := cellRow hb 2 (.slice a t.kids.length cap) rfl
  clear hT hb
  generalize szF t = X at *
  generalize dpF t = Y at *
  go_enter Tryz.func154, Tryz.ntmps154
  go_wp2_with fail
  refine (HF.out _ HZ.out).mono ?_
  rintro e w4 ⟨rfl, hw4⟩
  have H4 := Lib.hid (HZ.out.ext hw4)
  clear hw4 c0 c1 c2
  go_wp2_with fail
  go_ret
  exact ⟨rfl, H4.out⟩

end Go.Proofs.YtlkcjmaiahnodaaGreatDoor

/- The functions of apply; measure. -/
namespace Go.Proofs.YtlkcjmaiahnodaaGreatDoor
open Go.RowKit Go.Hw Go
set_option linter.unusedVariables false
set_option linter.unusedSimpArgs false

open Tm Go.Sort Go.Proofs Go.ChangeMaps
theorem wpList_run {P : Program} {ops : Array Oper} {rest : List Oper} {o : Oper} {a : Act} {w w' : World} {Q : Exit → Act → World → Prop} {v : Value} (hgd : o.guard = none)
    (hr : (execOp a.eval o).run P w = .ok (.value v) w') (h : wpList P ops Q rest (a.put o.dst v) w') : wpList P ops Q (o :: rest) a w :=
  wpList_plain hgd fun _ hK => by
    unfold Oper.wp
    rw [hr]
    exact hK _ _ h
theorem bsu_some {Bs : List Bd} {n s : By} {T : Tm} (h : bget Bs n = some T) : bsu Bs n s = T := by unfold bsu; rw [h]; rfl
theorem bsu_none {Bs : List Bd} {n s : By} (h : bget Bs n = none) : bsu Bs n s = vr n s := by unfold bsu; rw [h]; rfl
set_option maxRecDepth 100000 in
set_option maxHeartbeats 2000000 in
theorem val151_x (Bs : List Bd) (vB : Value) (bs : Nat) (n s : By) (L : List Tm) (a : Option Addr) (cap : Nat) (R S T : Nat → Prop) (w : World) (hL : L = []) (hT : TlR T w L (.slice a L.length cap)) (hB : w.heap[bs]? = some (.cells #[vB] 27 (0, 0))) (h : BnR R S w vB Bs) (hS : ∀ k, S k → k < w.heap.size) (hTT : ∀ k, T k → k < w.heap.size) (ha : AscK (Prod.fst : Bd → By) Bs) (hl : Bs.length ≤ 1000000) :
    Calls Tryz.prog 151 #[.agg #[.string n, .string s, .slice a L.length cap], .pointer (some ⟨bs, 0, none⟩)] w fun e w' => ∃ ra rc, e = .returned (tV (bsu Bs n s) (.slice ra (bsu Bs n s).kids.length rc)) ∧ TlR (fun k => k < w.heap.size) w' (bsu Bs n s).kids (.slice ra (bsu Bs n s).kids.length rc) ∧ Ext w w' := by
  obtain ⟨Q, hQ⟩ : ∃ Q, bsu Bs n s = Q := ⟨_, rfl⟩
  rw [hQ]
  have HQ := Lib.hid hQ
  clear hQ
  have hbl : bs < w.heap.size := (Array.getElem?_eq_some_iff.1 hB).1
  have hZ := ((Upd.refl (fun _ => False) w).alloc (.cells #[.string n, .string s, .slice a L.length cap] 24)).alloc (.cells #[.string ⟨#[]⟩, .string ⟨#[]⟩, .slice none 0 0] 24)
  have HB2 := Lib.hid (allocOld (alloc0 w (.cells #[.string n, .string s, .slice a L.length cap] 24)) (.cells #[.string ⟨#[]⟩, .string ⟨#[]⟩, .slice none 0 0] 24))
  have HB3 := Lib.hid (alloc_at (w.alloc (.cells #[.string n, .string s, .slice a L.length cap] 24)) (.cells #[.string ⟨#[]⟩, .string ⟨#[]⟩, .slice none 0 0] 24) (n := w.heap.size + 1) (by simp))
  have HBZ := Lib.hid (hZ.heap hB (fun h => h))
  have HH := Lib.hid h
  have HTL := Lib.hid (hT.weaken hTT)
  have HLN := Lib.hid hL
  have HSS := Lib.hid hS
  have HAS := Lib.hid ha
  have HZ := Lib.hid hZ
  have HBS := Lib.hid (fun W (hW : Ext w W) => bsB_x Bs vB n R S W (h.ext hW) ha hl)
  obtain ⟨ba, bc, rfl⟩ := h.shape
  have x0 := cellRow HB2.out 0 (.string n) rfl
  have x1 := cellRow HB2.out 1 (.string s) rfl
  have x2 := cellRow HB2.out 2 (.slice a L.length cap) rfl
  have y0 := cellRow HBZ.out 0 (.slice ba Bs.length bc) rfl
  obtain ⟨F, hF⟩ : ∃ F, (bget Bs n).isSome = F := ⟨_, rfl⟩
  have HF := Lib.hid hF
  rw [hF] at HBS
  clear h hB hT hL hS hTT ha hZ hF
  go_enter Tryz.func151, Tryz.ntmps151
  go_wp2_with fail
  generalize ((w.alloc (.cells #[.string n, .string s, .slice a L.length cap] 24)).alloc (.cells #[.string ⟨#[]⟩, .string ⟨#[]⟩, .slice none 0 0] 24)) = w1 at *
  refine (HBS.out _ HZ.out).mono ?_
  rintro e w4 ⟨rfl, hw4⟩
  have HE4 := Lib.hid (HZ.out.trans hw4)
  have HB24 := Lib.hid (hw4.heap HB2.out (fun h => h))
  have HB34 := Lib.hid (hw4.heap HB3.out (fun h => h))
  have HBZ4 := Lib.hid (hw4.heap HBZ.out (fun h => h))
  have y0 := cellRow HBZ4.out 0 (.slice ba Bs.length bc) rfl
  have f2 := fun i => frozenRow HB34.out i
  have d0 := cellRow HB34.out 0 (.string ⟨#[]⟩) rfl
  have d1 := cellRow HB34.out 1 (.string ⟨#[]⟩) rfl
  have d2 := cellRow HB34.out 2 (.slice none 0 0) rfl
  have x0 := cellRow HB24.out 0 (.string n) rfl
  have x1 := cellRow HB24.out 1 (.string s) rfl
  have x2 := cellRow HB24.out 2 (.slice a L.length cap) rfl
  clear hw4 HBS
  cases F with
  | true =>
    obtain ⟨hlt, hbg, _⟩ := lowK_some (n := n) HAS.out HF.out
    have hq : Q = (Go.Hw.bg Bs (lowK Bs n)).2.2 := by rw [← HQ.out]; exact bsu_some hbg
    obtain ⟨g, off, hga, _, hat⟩ := (HH.out.ext HE4.out).at_ (by omega)
    subst hga
    obtain ⟨ra, rc, p0, p1, p2, p3, p4, hkid⟩ := hat _ hlt
    have HK := Lib.hid (hkid.weaken HSS.out)
    obtain ⟨m, hm⟩ : ∃ m, lowK Bs n = m := ⟨_, rfl⟩
    rw [hm] at p0 p1 p2 p3 p4 hlt HK hq
    try rw [hm]
    have z0 : (0 : Int) ≤ (m : Int) := by omega
    have z1 : (m : Int) < (Bs.length : Int) := by omega
    obtain ⟨x, hx⟩ : ∃ x, Go.Hw.bg Bs m = x := ⟨_, rfl⟩
    rw [hx] at p0 p1 p2 p3 p4 HK hq
    obtain ⟨x1, x2, q⟩ := x
    simp only at p0 p1 p2 p3 p4 HK hq
    subst hq
    clear hat hkid hbg hx hm p0 p1 HQ
    go_wp2_with fail
    have hr3 := st3_heap HB34.out (.string Q.name) (.string Q.sort) (.slice ra Q.kids.length rc)
    have hu := st3_upd' w4 (w.heap.size + 1) (.string Q.name) (.string Q.sort) (.slice ra Q.kids.length rc)
    have e0 := cellRow hr3 0 _ rfl
    have e1 := cellRow hr3 1 _ rfl
    have e2 := cellRow hr3 2 _ rfl
    refine bodyPost_ret (v := .agg #[.string Q.name, .string Q.sort, .slice ra Q.kids.length rc]) (by simp [results, Tryz.results151, go_sem, e0, e1, e2]) rfl ⟨ra, rc, rfl, HK.out.kept hu (fun j hj e => by omega), HE4.out.trans' hu (fun j hj e => by omega)⟩
  | false =>
    have hn : bget Bs n = none := by have := HF.out; cases hb : bget Bs n with
      | none => rfl
      | some T => rw [hb] at this; cases this
    obtain rfl : Q = vr n s := by rw [← HQ.out]; exact bsu_none hn
    have HK := Lib.hid (HTL.out.ext HE4.out)
    have hll := HLN.out
    subst hll
    clear hn HQ
    go_wp2_with fail
    have hr3 := st3_heap HB34.out (.string n) (.string s) (.slice a 0 cap)
    have hu := st3_upd' w4 (w.heap.size + 1) (.string n) (.string s) (.slice a 0 cap)
    have e0 := cellRow hr3 0 _ rfl
    have e1 := cellRow hr3 1 _ rfl
    have e2 := cellRow hr3 2 _ rfl
    refine bodyPost_ret (v := .agg #[.string n, .string s, .slice a 0 cap]) (by simp [results, Tryz.results151, go_sem, e0, e1, e2]) rfl ⟨a, cap, rfl, HK.out.kept hu (fun j hj e => by omega), HE4.out.trans' hu (fun j hj e => by omega)⟩
set_option maxRecDepth 100000 in
set_option maxHeartbeats 2000000 in
theorem cl153_x (Bs : List Bd) (vB : Value) (bs vb : Nat) (n s : By) (L : List Tm) (a : Option Addr) (cap : Nat) (R S T : Nat → Prop) (w : World) (htab : AscT w) (hL : L = []) (hT : TlR T w L (.slice a L.length cap)) (hB : w.heap[bs]? = some (.cells #[vB] 27 (0, 0))) (hV : w.heap[vb]? = some (.cells #[.func (.func 151) #[] #[.pointer (some ⟨bs, 0, none⟩)]] 90 (0, 0))) (h : BnR R S w vB Bs) (hS : ∀ k, S k → k < w.heap.size) (hTT : ∀ k, T k → k < w.heap.size) (ha : AscK (Prod.fst : Bd → By) Bs) (hl : Bs.length ≤ 1000000) (hw : wf nmB (bsu Bs n s) = true) :
    Calls Tryz.prog 153 #[.agg #[.string n, .string s, .slice a L.length cap], .pointer (some ⟨vb, 0, none⟩)] w fun e w' => e = .returned (.tuple #[.int .i64 ((bsu Bs n s).size : Nat), .int .i64 ((bsu Bs n s).depth : Nat)]) ∧ Ext w w' := by
  have hE := (Upd.refl (fun _ => False) w).alloc (.cells #[.string n, .string s, .slice a L.length cap] 24)
  have HE := Lib.hid hE
  have HB2 := Lib.hid (alloc0 w (.cells #[.string n, .string s, .slice a L.length cap] 24))
  have HVC := Lib.hid (val151_x Bs vB bs n s L a cap R S T (w.alloc (.cells #[.string n, .string s, .slice a L.length cap] 24)) hL (hT.ext hE) (hE.heap hB (fun h => h)) (h.ext hE) (fun k hk => Nat.lt_of_lt_of_le (hS k hk) hE.size) (fun k hk => Nat.lt_of_lt_of_le (hTT k hk) hE.size) ha hl)
  have y0 := cellRow (hE.heap hV (fun h => h)) 0 (.func (.func 151) #[] #[.pointer (some ⟨bs, 0, none⟩)]) rfl
  have hszq := wf_size hw
  have hsf : szF (bsu Bs n s) = (bsu Bs n s).size := by unfold szF; rw [if_pos hw]
  have hdf : dpF (bsu Bs n s) = (bsu Bs n s).depth := by unfold dpF; rw [if_pos hw]
  have HSZ := Lib.hid (fun v W h1 h2 => Size_x (bsu Bs n s) v W h1 h2 (by omega))
  have HDP := Lib.hid (fun v W h1 h2 => Depth_x (bsu Bs n s) v W h1 h2 (by omega))
  rw [hsf] at HSZ
  rw [hdf] at HDP
  have HTAB := Lib.hid htab
  have x0 := cellRow HB2.out 0 (.string n) rfl
  have x1 := cellRow HB2.out 1 (.string s) rfl
  have x2 := cellRow HB2.out 2 (.slice a L.length cap) rfl
  have heg : ∀ args W, (callFunc 151 args).run Tryz.prog W = .ok (.enter 151 args) W := enters_of Tryz.func151 (by kernel_rfl) rfl
  obtain ⟨q, hq⟩ : ∃ q, bsu Bs n s = q := ⟨_, rfl⟩
  rw [hq] at HVC HSZ HDP ⊢
  clear hE htab hL hT hB hV h hS hTT ha hw hszq hsf hdf hq
  go_enter Tryz.func153, Tryz.ntmps153
  go_wp2_with fail
  generalize w.alloc (.cells #[.string n, .string s, .slice a L.length cap] 24) = w1 at *
  refine HVC.out.mono ?_
  rintro e w4 ⟨ra, rc, rfl, hk, hw4⟩
  have hE5 := hw4.alloc (.cells #[.string q.name, .string q.sort, .slice ra q.kids.length rc] 24)
  have HE5 := Lib.hid (HE.out.trans hE5)
  have HB5 := Lib.hid (alloc0 w4 (.cells #[.string q.name, .string q.sort, .slice ra q.kids.length rc] 24))
  have HK := Lib.hid (hk.ext ((Upd.refl (fun _ => False) w4).alloc (.cells #[.string q.name, .string q.sort, .slice ra q.kids.length rc] 24)))
  dsimp only [tV]
  have hsz15 := hE5.size
  clear x0 x1 x2 y0 HVC
  have x0 := cellRow HB5.out 0 (.string q.name) rfl
  have x1 := cellRow HB5.out 1 (.string q.sort) rfl
  have x2 := cellRow HB5.out 2 (.slice ra q.kids.length rc) rfl
  clear hk hw4 hE5
  go_wp2_with fail
  generalize hw5 : w4.alloc (.cells #[.string q.name, .string q.sort, .slice ra q.kids.length rc] 24) = w5 at *
  have HSZ2 := Lib.hid (fun W (hW : Ext w5 W) => HSZ.out (tV q (.slice ra q.kids.length rc)) W (asc_ext HTAB.out (HE5.out.trans hW)) ⟨ra, rc, rfl, (HK.out.ext hW).weaken (fun k hk => Nat.lt_of_lt_of_le hk (Nat.le_trans hsz15 hW.size))⟩)
  have HDP2 := Lib.hid (fun W (hW : Ext w5 W) => HDP.out (tV q (.slice ra q.kids.length rc)) W (asc_ext HTAB.out (HE5.out.trans hW)) ⟨ra, rc, rfl, (HK.out.ext hW).weaken (fun k hk => Nat.lt_of_lt_of_le hk (Nat.le_trans hsz15 hW.size))⟩)
  dsimp only [tV] at HSZ2 HDP2
  have hrfs := Upd.refl (fun _ => False) w5
  have xx0 := fun X : XW w5 => X.ext.cell x0 (fun h => h)
  have xx1 := fun X : XW w5 => X.ext.cell x1 (fun h => h)
  have xx2 := fun X : XW w5 => X.ext.cell x2 (fun h => h)
  clear x0 x1 x2 HSZ HDP hsz15
  refine wp_region_ext w5 (by assumption) (by kernel_rfl) (by kernel_rfl) ?_
  repeat (first | go_big_quiet_skip | (go_big_quiet_want; go_big_quiet_op; first | go_big_quiet_on | (apply Exists.intro; refine ⟨fun x => ?_, ?_⟩; (first | (go_at_call 145; exact XW.call (HSZ2.out x.val x.ext)) | (go_at_call 154; exact XW.call (HDP2.out x.val x.ext))); go_big_quiet_on)))
  refine wpQuiet_nil ?_
  rintro w8 ⟨⟨_, hyw8⟩, rfl⟩
  try dsimp only
  have HE8 := Lib.hid (HE5.out.trans hyw8)
  go_wp2_with fail
  go_ret2
  exact ⟨rfl, HE8.out⟩
set_option maxRecDepth 100000 in
set_option maxHeartbeats 2000000 in
theorem meas_x (Bs : List Bd) (vB : Value) (bs vb : Nat) (R S0 : Nat → Prop) (w0 : World) (HB : Hid (w0.heap[bs]? = some (.cells #[vB] 27 (0, 0)))) (HV : Hid (w0.heap[vb]? = some (.cells #[.func (.func 151) #[] #[.pointer (some ⟨bs, 0, none⟩)]] 90 (0, 0)))) (HBn : Hid (BnR R S0 w0 vB Bs)) (HS0 : Hid (∀ k, S0 k → k < w0.heap.size)) (HAS : Hid (AscK (Prod.fst : Bd → By) Bs)) (HBL : Hid (Bs.length ≤ 1000000)) (HTAB : Hid (AscT w0)) :
    ∀ (t : Tm) (v : Value) (S : Nat → Prop) (w : World), Ext w0 w → TmR S w t v → (∀ k, S k → k < w.heap.size) → t.size ≤ 100000 → NoP t → (∀ f ∈ vof t, wf nmB (bsu Bs f.1 f.2) = true) →
    Calls Tryz.prog 152 #[v, .func (.func 153) #[] #[.pointer (some ⟨vb, 0, none⟩)]] w fun e w' => e = .returned (.tuple #[.int .i64 ((min (sbB Bs t).size 1001 : Nat) : Int), .int .i64 ((min (sbB Bs t).depth 61 : Nat) : Int)]) ∧ Ext w w' := by
  refine Tm.ind (fun n s L ih => ?_)
  intro v S w hw0 hT hS hsz hnp hok
  obtain ⟨Z, hZZ⟩ : ∃ Z, sbB Bs (.mk n s L) = Z := ⟨_, rfl⟩
  rw [hZZ]
  have HZZ := Lib.hid hZZ
  clear hZZ
  obtain ⟨PS, hPS⟩ : ∃ P, min Z.size 1001 = P := ⟨_, rfl⟩
  obtain ⟨PD, hPD⟩ : ∃ P, min Z.depth 61 = P := ⟨_, rfl⟩
  rw [hPS, hPD]
  have HP0 := Lib.hid (And.intro hPS hPD)
  clear hPS hPD
  obtain ⟨a, cap, rfl, hT⟩ := hT
  dsimp only [tV, Tm.name, Tm.sort, Tm.kids] at hT ⊢
  have HTL := Lib.hid hT
  have HIH := Lib.hid ih
  have HSS := Lib.hid hS
  have HW0 := Lib.hid hw0
  have HOK := Lib.hid hok
  have HNP := Lib.hid hnp
  have hszL : sizes L + 1 ≤ 100000 := by rw [size_eq] at hsz; simp only [Tm.kids] at hsz; omega
  have HSL := Lib.hid hszL
  have hlL : L.length ≤ 100000 := by have h1 := length_le_sizes L; omega
  have HV1 := Lib.hid (fun W => variable_x n s a L.length cap W)
  have HZ := Lib.hid ((Upd.refl (fun _ => False) w).alloc (.cells #[.string n, .string s, .slice a L.length cap] 24))
  have HB2 := Lib.hid (alloc0 w (.cells #[.string n, .string s, .slice a L.length cap] 24))
  have heg : ∀ args W, (callFunc 153 args).run Tryz.prog W = .ok (.enter 153 args) W := enters_of Tryz.func153 (by kernel_rfl) rfl
  have x0 := cellRow HB2.out 0 (.string n) rfl
  have x1 := cellRow HB2.out 1 (.string s) rfl
  have x2 := cellRow HB2.out 2 (.slice a L.length cap) rfl
  clear ih hT hS hsz hszL hw0 hok hnp
  by_cases hs0 : s = nul
  rotate_left
  · rw [decide_eq_false hs0] at HV1
    obtain rfl : Z = bsu Bs n s := by rw [← HZZ.out]; exact sbT_var _ hs0 L
    have HOK1 := Lib.hid (HOK.out (n, s) (vof_self hs0 L))
    have HLN : Hid (L = []) := Lib.hid (HNP.out (.mk n s L) (mem_sbts_self _) hs0)
    have hq1 := (wf_iff.1 HOK1.out).1
    have hq2 := (wf_iff.1 HOK1.out).2.1
    have hp0 := HP0.out
    rw [Nat.min_eq_left (by simp only at hq1; omega), Nat.min_eq_left (by simp only at hq2; omega)] at hp0
    obtain ⟨hp1, hp2⟩ := hp0
    obtain ⟨q, hq⟩ : ∃ q, bsu Bs n s = q := ⟨_, rfl⟩
    have HQQ := Lib.hid hq
    rw [hq] at hp1 hp2
    subst hp1
    subst hp2
    clear hs0 hq hq1 hq2 HP0
    go_enter Tryz.func152, Tryz.ntmps152
    go_wp2_with fail
    generalize w.alloc (.cells #[.string n, .string s, .slice a L.length cap] 24) = w1 at *
    refine (HV1.out _).mono ?_
    rintro e w3 ⟨rfl, hw3⟩
    have HE3 := Lib.hid (HZ.out.trans hw3)
    have HB23 := Lib.hid (hw3.heap HB2.out (fun h => h))
    clear hw3 HV1 x0 x1 x2
    have x0 := cellRow HB23.out 0 (.string n) rfl
    have x1 := cellRow HB23.out 1 (.string s) rfl
    have x2 := cellRow HB23.out 2 (.slice a L.length cap) rfl
    have HCL := Lib.hid (cl153_x Bs vB bs vb n s L a cap R S0 S w3 (asc_ext HTAB.out (HW0.out.trans HE3.out)) HLN.out (HTL.out.ext HE3.out) ((HW0.out.trans HE3.out).heap HB.out (fun h => h)) ((HW0.out.trans HE3.out).heap HV.out (fun h => h)) (HBn.out.ext (HW0.out.trans HE3.out)) (fun k hk => Nat.lt_of_lt_of_le (HS0.out k hk) (HW0.out.trans HE3.out).size) (fun k hk => Nat.lt_of_lt_of_le (HSS.out k hk) HE3.out.size) HAS.out HBL.out HOK1.out)
    rw [HQQ.out] at HCL
    clear HOK1 HZZ
    go_wp2_with fail
    refine HCL.out.mono ?_
    rintro e w6 ⟨rfl, hw6⟩
    have HE6 := Lib.hid (HE3.out.trans hw6)
    clear hw6 HCL x0 x1 x2
    go_wp2_with fail
    go_ret2
    exact ⟨rfl, HE6.out⟩
  rw [decide_eq_true hs0] at HV1
  obtain rfl : Z = .mk n nul (L.map (sbB Bs)) := by rw [← HZZ.out, hs0]; exact sbT_opn _ n L
  have HOKL : Hid (∀ x ∈ L, ∀ f ∈ vof x, wf nmB (bsu Bs f.1 f.2) = true) := Lib.hid (fun x hx f hf => HOK.out f (by
    rw [hs0, vof_op]
    exact List.mem_flatMap.2 ⟨x, hx, hf⟩))
  obtain ⟨M, hM⟩ : ∃ M, L.map (sbB Bs) = M := ⟨_, rfl⟩
  have HMM := Lib.hid hM
  have HPS : Hid (PS = min (sizes M + 1) 1001) := Lib.hid (by rw [← HP0.out.1, size_eq, ← hM]; rfl)
  have HPD : Hid (PD = min (depths M + 1) 61) := Lib.hid (by rw [← HP0.out.2, depth_eq, ← hM]; rfl)
  have HML : Hid (M.length = L.length) := Lib.hid (by rw [← hM, List.length_map])
  clear hs0 hM
  go_enter Tryz.func152, Tryz.ntmps152
  go_wp2_with fail
  generalize w.alloc (.cells #[.string n, .string s, .slice a L.length cap] 24) = w1 at *
  refine (HV1.out _).mono ?_
  rintro e w3 ⟨rfl, hw3⟩
  have HE3 := Lib.hid (HZ.out.trans hw3)
  have HB23 := Lib.hid (hw3.heap HB2.out (fun h => h))
  clear hw3 HV1 x0 x1 x2
  have x0 := cellRow HB23.out 0 (.string n) rfl
  have x1 := cellRow HB23.out 1 (.string s) rfl
  have x2 := cellRow HB23.out 2 (.slice a L.length cap) rfl
  go_wp2_with fail
  clear x0 x1 x2
  go_loopg [6, 7, 22] L.length (fun gk nv dv iv wr => ∃ k : Nat, nv = .int .i64 ((min (sizes (M.take k) + 1) 1001 : Nat) : Int) ∧ dv = .int .i64 ((min (depths (M.take k)) 61 : Nat) : Int) ∧ iv = .int .i64 (k : Int) ∧ gk = L.length - k ∧ k ≤ L.length ∧ Hid (Ext w3 wr))
  case atStart => exact ⟨0, by simp [sizes], by simp [depths], rfl, rfl, Nat.zero_le _, Lib.hid (Upd.refl _ _)⟩
  case round =>
    obtain ⟨k, rfl, rfl, rfl, rfl, hk, HE⟩ := hrel
    by_cases hlt : k < L.length
    · obtain ⟨g, off, hga, _, hat⟩ := (HTL.out.ext (HE3.out.trans HE.out)).at_ (by omega)
      subst hga
      obtain ⟨xa, xc, q0, q1, q2, hkid⟩ := hat k hlt
      rw [← Nat.add_assoc] at q1 q2
      have z0 : (0 : Int) ≤ (k : Int) := by omega
      have z1 : (k : Int) < (L.length : Int) := by omega
      have z2 : decide ((k : Int) < (L.length : Int)) = true := decide_eq_true z1
      have z2' : decide (k < L.length) = true := decide_eq_true hlt
      have HIX := Lib.hid (fun W (hW : Ext wr W) => HIH.out (tg L k) (tg_mem L k hlt) _ S W (HW0.out.trans ((HE3.out.trans HE.out).trans hW)) ⟨xa, xc, rfl, hkid.ext hW⟩ (fun j hj => Nat.lt_of_lt_of_le (HSS.out j hj) ((HE3.out.trans HE.out).trans hW).size) (by have h1 := HSL.out; have h2 := size_mem (tg_mem L k hlt); omega) (HNP.out.kid (tg_mem L k hlt)) (HOKL.out _ (tg_mem L k hlt)))
      dsimp only [tV] at HIX
      have hsx := sizes_take M k (by rw [HML.out]; exact hlt)
      have hdx := depths_take M k (by rw [HML.out]; exact hlt)
      have hzx : tg M k = sbB Bs (tg L k) := by
        rw [← HMM.out]
        unfold tg
        rw [List.getD_eq_getElem?_getD, List.getD_eq_getElem?_getD, List.getElem?_map, List.getElem?_eq_getElem hlt]
        rfl
      rw [hzx] at hsx hdx
      obtain ⟨x, hx⟩ : ∃ x, tg L k = x := ⟨_, rfl⟩
      rw [hx] at q0 q1 q2 HIX hsx hdx
      obtain ⟨XS, hXS⟩ : ∃ X, (sbB Bs x).size = X := ⟨_, rfl⟩
      obtain ⟨XD, hXD⟩ : ∃ X, (sbB Bs x).depth = X := ⟨_, rfl⟩
      rw [hXS] at HIX hsx
      rw [hXD] at HIX hdx
      obtain ⟨N, hN⟩ : ∃ N, sizes (M.take k) = N := ⟨_, rfl⟩
      obtain ⟨D, hD⟩ : ∃ D, depths (M.take k) = D := ⟨_, rfl⟩
      rw [hN] at hsx
      rw [hD] at hdx
      try rw [hN]
      try rw [hD]
      have HSX := Lib.hid hsx
      have HDX := Lib.hid hdx
      obtain ⟨N1, hN1⟩ : ∃ X, min (N + 1) 1001 = X := ⟨_, rfl⟩
      obtain ⟨D1, hD1⟩ : ∃ X, min D 61 = X := ⟨_, rfl⟩
      obtain ⟨X1, hX1⟩ : ∃ X, min XS 1001 = X := ⟨_, rfl⟩
      obtain ⟨E1, hE1⟩ : ∃ X, min XD 61 = X := ⟨_, rfl⟩
      rw [hX1, hE1] at HIX
      try rw [hN1]
      try rw [hD1]
      have hb1 : N1 ≤ 1001 := by omega
      have hb2 : X1 ≤ 1001 := by omega
      have HNN := Lib.hid (And.intro hN1 hX1)
      have HDD := Lib.hid (And.intro hD1 hE1)
      obtain ⟨P, hP⟩ : ∃ P : Int, P = min ((N1 : Int) + (X1 : Int)) 1001 := ⟨_, rfl⟩
      obtain ⟨Q, hQ⟩ : ∃ Q : Int, Q = max (D1 : Int) (E1 : Int) := ⟨_, rfl⟩
      have HP := Lib.hid hP
      have HQ := Lib.hid hQ
      have z7 : IntKind.i64.wrap ((N1 : Int) + (X1 : Int)) = (N1 : Int) + (X1 : Int) := IntWalk.i64_in _ (by omega)
      have hE5 := Lib.hid ((Upd.refl (fun _ => False) wr).alloc (.cells #[.string x.name, .string x.sort, .slice xa x.kids.length xc] 24))
      have hB5 := alloc0 wr (.cells #[.string x.name, .string x.sort, .slice xa x.kids.length xc] 24)
      have b0 := cellRow hB5 0 (.string x.name) rfl
      have b1 := cellRow hB5 1 (.string x.sort) rfl
      have b2 := cellRow hB5 2 (.slice xa x.kids.length xc) rfl
      clear hat hkid hx hsx hdx hzx hXS hXD hN hD hN1 hD1 hX1 hE1 hP hQ hB5
      go_wp2_with fail
      refine (HIX.out _ hE5.out).mono ?_
      rintro e w5 ⟨rfl, hw5⟩
      have HE5 := Lib.hid (HE.out.trans (hE5.out.trans hw5))
      clear hw5 HIX b0 b1 b2 q0 q1 q2 hE5
      go_wp2_with (with_reducible (refine stop_at (o := ⟨some 35, _, _, _, _, _⟩) ?_))
      refine Stop.go ?_
      refine wpList_run rfl (v := .int .i64 P) (w' := w5) ?_ ?_
      · go_simp
        have := HP.out
        omega
      go_wp2_with (with_reducible (refine stop_at (o := ⟨some 38, _, _, _, _, _⟩) ?_))
      refine Stop.go ?_
      refine wpList_run rfl (v := .int .i64 Q) (w' := w5) ?_ ?_
      · go_simp
        have := HQ.out
        omega
      go_wp2_with fail
      go_roundg (L.length - (k + 1))
      case measure => omega
      case rel => exact ⟨k + 1, by rw [HSX.out]; have h1 := HP.out; have h2 := HNN.out; congr 1; omega, by rw [HDX.out]; have h1 := HQ.out; have h2 := HDD.out; congr 1; omega, by go_num, rfl, by omega, HE5⟩
    · obtain rfl : k = L.length := by omega
      have z2 : decide ((L.length : Int) < (L.length : Int)) = false := decide_eq_false (by omega)
      have htk : M.take L.length = M := by rw [← HML.out, List.take_length]
      rw [htk]
      have hps := HPS.out
      have hpd := HPD.out
      obtain ⟨D, hD⟩ : ∃ D, min (depths M) 61 = D := ⟨_, rfl⟩
      obtain ⟨N, hN⟩ : ∃ N, min (sizes M + 1) 1001 = N := ⟨_, rfl⟩
      rw [hD, hN]
      obtain ⟨Q, hQ⟩ : ∃ Q : Int, Q = min ((D : Int) + 1) 61 := ⟨_, rfl⟩
      have HQ := Lib.hid hQ
      have HPS2 : Hid (PS = N) := Lib.hid (by omega)
      have HPD2 : Hid (((PD : Nat) : Int) = Q) := Lib.hid (by omega)
      have hd61 : D ≤ 61 := by omega
      clear hps hpd hQ hD hN htk
      go_wp2_with (with_reducible (refine stop_at (o := ⟨some 43, _, _, _, _, _⟩) ?_))
      refine Stop.go ?_
      refine wpList_run rfl (v := .int .i64 Q) (w' := wr) ?_ ?_
      · go_simp
        have := HQ.out
        omega
      go_wp2_with fail
      go_ret2
      rw [HPS2.out, HPD2.out]
      exact ⟨rfl, (HE3.out.trans HE.out)⟩

end Go.Proofs.YtlkcjmaiahnodaaGreatDoor

/- replaced, with the values of a substitution. -/
namespace Go.Proofs.YtlkcjmaiahnodaaGreatDoor
open Go.RowKit Go.Hw Go
set_option linter.unusedVariables false
set_option linter.unusedSimpArgs false

open Tm Go.Sort Go.Proofs Go.ChangeMaps
set_option maxRecDepth 100000 in
set_option maxHeartbeats 2000000 in
theorem rep151_x (Bs : List Bd) (vB : Value) (bs : Nat) (RB S0 : Nat → Prop) (w0 : World) (HBB : Hid (w0.heap[bs]? = some (.cells #[vB] 27 (0, 0)))) (HBn : Hid (BnR RB S0 w0 vB Bs)) (HS0 : Hid (∀ k, S0 k → k < w0.heap.size)) (HAS : Hid (AscK (Prod.fst : Bd → By) Bs)) (HBL : Hid (Bs.length ≤ 1000000)) : ∀ (t : Tm) (v : Value) (S : Nat → Prop) (w : World), Ext w0 w → TmR S w t v → (∀ k, S k → k < w.heap.size) → t.size ≤ 100000 → NoP t → (∀ f ∈ vof t, (bsu Bs f.1 f.2).size ≤ 100000) →
    Calls Tryz.prog 80 #[v, .func (.func 151) #[] #[.pointer (some ⟨bs, 0, none⟩)]] w fun e w' => ∃ r B, e = .returned (tV (sbT (bsu Bs) t) r) ∧ TlO 24 w' B (sbT (bsu Bs) t).kids r ∧ (∀ j, B j → w.heap.size ≤ j ∧ j < w'.heap.size) ∧ Ext w w' := by
  refine Tm.ind (fun n s L ih => ?_)
  intro v S w hw0 hT hS hsz hnp hok
  have HNP := Lib.hid hnp
  clear hnp
  obtain ⟨Z, hZZ⟩ : ∃ Z, sbT (bsu Bs) (.mk n s L) = Z := ⟨_, rfl⟩
  rw [hZZ]
  have HZZ := Lib.hid hZZ
  clear hZZ
  obtain ⟨a, cap, rfl, hT⟩ := hT
  dsimp only [tV, Tm.name, Tm.sort, Tm.kids] at hT ⊢
  have HTL := Lib.hid hT
  have HIH := Lib.hid ih
  have HSS := Lib.hid hS
  have HW0 := Lib.hid hw0
  have HOK := Lib.hid hok
  have hszL : sizes L + 1 ≤ 100000 := by rw [size_eq] at hsz; simp only [Tm.kids] at hsz; omega
  have HSL := Lib.hid hszL
  have hlL : L.length ≤ 100000 := by have h1 := length_le_sizes L; omega
  have HV1 := Lib.hid (fun W => variable_x n s a L.length cap W)
  have hZ := ((Upd.refl (fun _ => False) w).alloc (.cells #[.string n, .string s, .slice a L.length cap] 24)).alloc (.cells #[.string ⟨#[]⟩, .string ⟨#[]⟩, .slice none 0 0] 24)
  have HB2 := Lib.hid (allocOld (alloc0 w (.cells #[.string n, .string s, .slice a L.length cap] 24)) (.cells #[.string ⟨#[]⟩, .string ⟨#[]⟩, .slice none 0 0] 24))
  have HB3 := Lib.hid (alloc_at (w.alloc (.cells #[.string n, .string s, .slice a L.length cap] 24)) (.cells #[.string ⟨#[]⟩, .string ⟨#[]⟩, .slice none 0 0] 24) (n := w.heap.size + 1) (by simp))
  have hz2 : w.heap.size + 2 ≤ ((w.alloc (.cells #[.string n, .string s, .slice a L.length cap] 24)).alloc (.cells #[.string ⟨#[]⟩, .string ⟨#[]⟩, .slice none 0 0] 24)).heap.size := by simp
  have x0 := cellRow HB2.out 0 (.string n) rfl
  have x1 := cellRow HB2.out 1 (.string s) rfl
  have x2 := cellRow HB2.out 2 (.slice a L.length cap) rfl
  have HZ := Lib.hid hZ
  have HZ2 := Lib.hid hz2
  clear ih hT hS hsz hszL hZ hz2 hw0 hok
  by_cases hs0 : s = nul
  rotate_left
  · rw [decide_eq_false hs0] at HV1
    have HZQ : Hid (bsu Bs n s = Z) := Lib.hid (by rw [← HZZ.out]; exact (sbT_var _ hs0 L).symm)
    have HOK1 : Hid (Z.size ≤ 100000) := Lib.hid (by rw [← HZQ.out]; exact HOK.out (n, s) (vof_self hs0 L))
    obtain ⟨zn, zs, zl⟩ := Z
    have HLN : Hid (L = []) := Lib.hid (HNP.out (.mk n s L) (mem_sbts_self _) hs0)
    clear hs0
    go_enter Tryz.func80, Tryz.ntmps80
    go_wp2_with fail
    refine (HV1.out _).mono ?_
    rintro e w3 ⟨rfl, hw3⟩
    have HE3 := Lib.hid (HZ.out.trans hw3)
    have HS3 : Hid (w.heap.size + 2 ≤ w3.heap.size) := Lib.hid (Nat.le_trans HZ2.out hw3.size)
    have HB23 := Lib.hid (hw3.heap HB2.out (fun h => h))
    have HB33 := Lib.hid (hw3.heap HB3.out (fun h => h))
    clear hw3 HV1 x0 x1 x2
    have x0 := cellRow HB23.out 0 (.string n) rfl
    have x1 := cellRow HB23.out 1 (.string s) rfl
    have x2 := cellRow HB23.out 2 (.slice a L.length cap) rfl
    go_wp2_with fail
    have hvc := (val151_x Bs vB bs n s L a cap RB S0 S w3 HLN.out (HTL.out.ext HE3.out) ((HW0.out.trans HE3.out).heap HBB.out (fun h => h)) (HBn.out.ext (HW0.out.trans HE3.out)) (fun k hk => Nat.lt_of_lt_of_le (HS0.out k hk) (HW0.out.trans HE3.out).size) (fun k hk => Nat.lt_of_lt_of_le (HSS.out k hk) HE3.out.size) HAS.out HBL.out)
    rw [HZQ.out] at hvc
    have HVC := Lib.hid hvc
    clear hvc
    refine HVC.out.mono ?_
    rintro e w6 ⟨ra, rc, rfl, hr6, hw6⟩
    have HCP := Lib.hid (ucopied_x (.mk zn zs zl) (tV (.mk zn zs zl) (.slice ra zl.length rc)) (fun k => k < w6.heap.size) w6 ⟨ra, rc, rfl, hr6.weaken (fun k hk => Nat.lt_of_lt_of_le hk hw6.size)⟩ (fun k h => h) HOK1.out)
    clear hr6
    dsimp only [tV, Tm.name, Tm.sort, Tm.kids] at HCP ⊢
    have HE6 := Lib.hid (HE3.out.trans hw6)
    have HB36 := Lib.hid (hw6.heap HB33.out (fun h => h))
    have HS6 : Hid (w.heap.size + 2 ≤ w6.heap.size) := Lib.hid (Nat.le_trans HS3.out hw6.size)
    clear hw6 x0 x1 x2
    go_wp2_with fail
    refine HCP.out.mono ?_
    rintro e w7 ⟨r7, B7, rfl, hT7, hb7, hw7⟩
    obtain ⟨ya, yc, hry⟩ := TlO.shape hT7
    subst hry
    have HT7 := Lib.hid hT7
    have HB7 := Lib.hid hb7
    have HE7 := Lib.hid (HE6.out.trans hw7)
    have HB37 := Lib.hid (hw7.heap HB36.out (fun h => h))
    have d0 := cellRow HB37.out 0 (.string ⟨#[]⟩) rfl
    have d1 := cellRow HB37.out 1 (.string ⟨#[]⟩) rfl
    have d2 := cellRow HB37.out 2 (.slice none 0 0) rfl
    have f2 := fun i => frozenRow HB37.out i
    dsimp only [tV]
    try dsimp only [Tm.name, Tm.sort, Tm.kids, List.length_nil]
    clear hT7 hb7 hw7 HCP
    go_wp2_with fail
    have hr3 := st3_heap HB37.out (.string zn) (.string zs) (.slice ya zl.length yc)
    have hu := st3_upd' w7 (w.heap.size + 1) (.string zn) (.string zs) (.slice ya zl.length yc)
    have e0 := cellRow hr3 0 _ rfl
    have e1 := cellRow hr3 1 _ rfl
    have e2 := cellRow hr3 2 _ rfl
    have hs6 := HS6.out
    refine bodyPost_ret (v := .agg #[.string zn, .string zs, .slice ya zl.length yc]) (by simp [results, Tryz.results80, go_sem, e0, e1, e2]) rfl ⟨.slice ya zl.length yc, B7, rfl, HT7.out.kept hu (fun j hj e => by have h1 := (HB7.out j hj).1; omega), fun j hj => ⟨by have h1 := (HB7.out j hj).1; omega, Nat.lt_of_lt_of_le (HB7.out j hj).2 hu.size⟩, HE7.out.trans' hu (fun j hj e => by omega)⟩
  rw [decide_eq_true hs0] at HV1
  obtain rfl : Z = .mk n nul (L.map (sbT (bsu Bs))) := by rw [← HZZ.out, hs0]; exact sbT_opn _ n L
  have HOKL : Hid (∀ x ∈ L, ∀ f ∈ vof x, (bsu Bs f.1 f.2).size ≤ 100000) := Lib.hid (fun x hx f hf => HOK.out f (by
    rw [hs0, vof_op]
    exact List.mem_flatMap.2 ⟨x, hx, hf⟩))
  clear hs0
  go_enter Tryz.func80, Tryz.ntmps80
  go_wp2_with fail
  refine (HV1.out _).mono ?_
  rintro e w3 ⟨rfl, hw3⟩
  have HE3 := Lib.hid (HZ.out.trans hw3)
  have HB23 := Lib.hid (hw3.heap HB2.out (fun h => h))
  have HB33 := Lib.hid (hw3.heap HB3.out (fun h => h))
  have HS3 : Hid (w.heap.size + 2 ≤ w3.heap.size) := Lib.hid (Nat.le_trans HZ2.out hw3.size)
  clear hw3 HV1 x0 x1 x2
  have HX4 := Lib.hid ((Upd.refl (fun _ => False) w3).alloc (.cells #[.string n, .string ⟨#[]⟩, .slice none 0 0] 24))
  have HB24 := Lib.hid (allocOld HB23.out (.cells #[.string n, .string ⟨#[]⟩, .slice none 0 0] 24))
  have HB34 := Lib.hid (allocOld HB33.out (.cells #[.string n, .string ⟨#[]⟩, .slice none 0 0] 24))
  have HB44 := Lib.hid (alloc0 w3 (.cells #[.string n, .string ⟨#[]⟩, .slice none 0 0] 24))
  have HS4 : Hid (w3.heap.size + 1 ≤ (w3.alloc (.cells #[.string n, .string ⟨#[]⟩, .slice none 0 0] 24)).heap.size) := Lib.hid (by simp)
  have x0 := cellRow HB23.out 0 (.string n) rfl
  have x1 := cellRow HB23.out 1 (.string s) rfl
  have x2 := cellRow HB23.out 2 (.slice a L.length cap) rfl
  have u0 := cellRow HB24.out 0 (.string n) rfl
  have u1 := cellRow HB24.out 1 (.string s) rfl
  have u2 := cellRow HB24.out 2 (.slice a L.length cap) rfl
  go_wp2_with fail
  generalize w3.alloc (.cells #[.string n, .string ⟨#[]⟩, .slice none 0 0] 24) = w4 at *
  obtain ⟨n3, hn3⟩ : ∃ n3, w3.heap.size = n3 := ⟨_, rfl⟩
  rw [hn3] at HB44 HS4 HS3 ⊢
  have HE4 := Lib.hid (HE3.out.trans HX4.out)
  have HJ0 : Hid (CpJ 24 (n3 + 1) w4 (L.map (sbT (bsu Bs))) (.slice none 0 0) [] (fun _ _ => False) 0) := Lib.hid ⟨rfl, ⟨rfl, .inl ⟨rfl, rfl⟩⟩, fun i hi => absurd hi (Nat.not_lt_zero _), fun i j hi => absurd hi (Nat.not_lt_zero _), fun i i' j hi => absurd hi (Nat.not_lt_zero _)⟩
  clear hn3 x0 x1 x2 u0 u1 u2 HX4 HE3 HB23 HB33 HB24 HZ HB2 HB3
  go_loopg [20] L.length (fun gk iv wr => ∃ (k : Nat) (lv : Value) (us : List Value) (Bk : Nat → Nat → Prop), iv = .int .i64 (k : Int) ∧ gk = L.length - k ∧ k ≤ L.length ∧ Hid (CpJ 24 (n3 + 1) wr (L.map (sbT (bsu Bs))) lv us Bk k) ∧ Hid (wr.heap[w.heap.size + 1]? = some (.cells #[.string ⟨#[]⟩, .string ⟨#[]⟩, .slice none 0 0] 24 (0, 0))) ∧ Hid (wr.heap[n3]? = some (.cells #[.string n, .string ⟨#[]⟩, lv] 24 (0, 0))) ∧ Hid (Ext w wr) ∧ Hid (n3 + 1 ≤ wr.heap.size))
  case atStart => exact ⟨0, _, _, _, rfl, rfl, Nat.zero_le _, HJ0, HB34, HB44, HE4, HS4⟩
  case round =>
    clear HJ0 HB34 HB44 HE4 HS4
    obtain ⟨k, lv, us, Bk, rfl, rfl, hk, HJ, HB2, HB3, HE, HSZ⟩ := hrel
    obtain ⟨la, lc, hlv⟩ := own_shape HJ.out.own
    subst hlv
    by_cases hlt : k < L.length
    · obtain ⟨g, off, hga, _, hat⟩ := (HTL.out.ext HE.out).at_ (by omega)
      subst hga
      obtain ⟨xa, xc, q0, q1, q2, hkid⟩ := hat k hlt
      rw [← Nat.add_assoc] at q1 q2
      have z0 : (0 : Int) ≤ (k : Int) := by omega
      have z1 : (k : Int) < (L.length : Int) := by omega
      have z2 : decide ((k : Int) < (L.length : Int)) = true := decide_eq_true z1
      have z2' : decide (k < L.length) = true := decide_eq_true hlt
      have HIX := Lib.hid (fun W (hW : Ext wr W) => HIH.out (tg L k) (tg_mem L k hlt) _ S W (HW0.out.trans (HE.out.trans hW)) ⟨xa, xc, rfl, hkid.ext hW⟩ (fun j hj => Nat.lt_of_lt_of_le (HSS.out j hj) (Nat.le_trans HE.out.size hW.size)) (by have h1 := HSL.out; have h2 := size_mem (tg_mem L k hlt); omega) (HNP.out.kid (tg_mem L k hlt)) (HOKL.out _ (tg_mem L k hlt)))
      dsimp only [tV] at HIX
      obtain ⟨x, hx⟩ : ∃ x, tg L k = x := ⟨_, rfl⟩
      have hzx : tg (L.map (sbT (bsu Bs))) k = sbT (bsu Bs) x := by
        rw [← hx]
        unfold tg
        rw [List.getD_eq_getElem?_getD, List.getD_eq_getElem?_getD, List.getElem?_map, List.getElem?_eq_getElem hlt]
        rfl
      obtain ⟨z, hz⟩ : ∃ z, sbT (bsu Bs) x = z := ⟨_, rfl⟩
      rw [hx, hz] at HIX
      rw [hx] at q0 q1 q2
      rw [hz] at hzx
      have HZX := Lib.hid hzx
      have hQ := (Upd.refl (fun _ => False) wr).alloc (.cells #[.string x.name, .string x.sort, .slice xa x.kids.length xc] 24)
      have hB5 := alloc0 wr (.cells #[.string x.name, .string x.sort, .slice xa x.kids.length xc] 24)
      have b0 := cellRow hB5 0 (.string x.name) rfl
      have b1 := cellRow hB5 1 (.string x.sort) rfl
      have b2 := cellRow hB5 2 (.slice xa x.kids.length xc) rfl
      have hB3q := allocOld HB3.out (.cells #[.string x.name, .string x.sort, .slice xa x.kids.length xc] 24)
      have c2 := cellRow hB3q 2 (.slice la k lc) rfl
      have HBQ := Lib.hid hB3q
      have HQ := Lib.hid hQ
      have HB2Q := Lib.hid (allocOld HB2.out (.cells #[.string x.name, .string x.sort, .slice xa x.kids.length xc] 24))
      have HOQ := Lib.hid (HJ.out.own.alloc (.cells #[.string x.name, .string x.sort, .slice xa x.kids.length xc] 24))
      have HRN : Hid (¬ (Value.slice la k lc).ownBlock = some n3) := Lib.hid (fun e => by have h1 := (HJ.out.own.lt n3 e).1; omega)
      have HK : Hid (k ≤ 100000) := Lib.hid (by omega)
      obtain ⟨iT, hi, hz0, hz1, hz2⟩ := info_parts infoT
      clear hat hkid hx hQ hB5 hB3q hz hzx
      go_wp2_with fail
      generalize wr.alloc (.cells #[.string x.name, .string x.sort, .slice xa x.kids.length xc] 24) = wq at *
      have HWQ : Hid (Ext wq wq) := Lib.hid (Upd.refl _ _)
      have HSQ : Hid (n3 + 1 ≤ wq.heap.size) := Lib.hid (Nat.le_trans HSZ.out HQ.out.size)
      clear q0 q1 q2
      go_region_law (first
        | (refine step_append_at _ (.tmp 25) (.tmp 29) 22 rfl (n3 + 1) 24 iT (.agg #[.string ⟨#[]⟩, .string ⟨#[]⟩, .slice none 0 0]) 3 56 Tryz.underlying22 hi hz0 hz1 hz2 rfl (by decide) _ _ _ rfl HOW5.out _ 1 1 [Value.string z.name, .string z.sort, .slice ya z.kids.length yc] rfl rfl HNEW.out HONE.out HLM.out.1 HLM.out.2.1 HLM.out.2.2 ?_; intro v7 w7 hG7; obtain ⟨a7, c7, hv7⟩ := own_shape hG7.own; subst hv7; have hB7 := hG7.upd.heap (allocOld HB5.out (.cells #[.string z.name, .string z.sort, .slice ya z.kids.length yc] 24)) HRN.out; have f7 := fun i => frozenRow hB7 i; have c2 := cellRow hB7 2 (.slice la k lc) rfl; have HB7 := Lib.hid hB7; have HG7 := Lib.hid hG7; clear hG7 hB7)
        | (go_simp; refine (HIX.out wq.drew (HQ.out.trans HWQ.out.drew)).mono ?_; rintro e w5 ⟨r, Bx, rfl, hT5, hb5, hw5⟩; obtain ⟨ya, yc, hry⟩ := TlO.shape hT5; subst hry; have HW5 : Hid (Ext wq w5) := Lib.hid (((Upd.refl (fun _ => False) wq).drewN' 1).trans hw5); have HT5 := Lib.hid hT5; have HBX5 : Hid (∀ j, Bx j → wq.heap.size ≤ j ∧ j < w5.heap.size) := Lib.hid hb5; have HB5 := Lib.hid (HW5.out.heap HBQ.out (fun h => h)); have HOW5 : Hid ((w5.alloc (.cells #[.string z.name, .string z.sort, .slice ya z.kids.length yc] 24)).ownsRow (n3 + 1) 24 3 (.slice la k lc) k (tCells ((L.map (sbT (bsu Bs))).take k) us)) := Lib.hid ((own_kept HOQ.out HW5.out (fun _ _ h => h)).alloc _); have HNEW : Hid (∀ (j : Nat) (u : Value), [Value.string z.name, .string z.sort, .slice ya z.kids.length yc][j]? = some u → (w5.alloc (.cells #[.string z.name, .string z.sort, .slice ya z.kids.length yc] 24)).cell? ((⟨w5.heap.size, 0, none⟩ : Addr).add j) = some u) := Lib.hid (new3 w5 _ _ _ 24); have HONE : Hid (∀ u ∈ [Value.string z.name, .string z.sort, .slice ya z.kids.length yc], u.oneCell' = true) := Lib.hid (fun u hu => by simp at hu; rcases hu with h | h | h <;> (subst h; rfl)); have HLM : Hid (k + 1 ≤ maxLen ∧ (k + 1) * 56 ≤ 140737488355328 ∧ n3 + 1 ≤ (w5.alloc (.cells #[.string z.name, .string z.sort, .slice ya z.kids.length yc] 24)).heap.size) := Lib.hid ⟨by unfold maxLen; have := HK.out; omega, by have := HK.out; omega, by have h1 := HW5.out.size; have h2 := HSQ.out; simp; omega⟩; have c5 := HW5.out.cell c2 (fun h => h); have c6 := ((Upd.refl (fun _ => False) w5).alloc (.cells #[.string z.name, .string z.sort, .slice ya z.kids.length yc] 24)).cell c5 (fun h => h); clear hT5 hb5 hw5))
      all_goals
        go_wp2_with fail
        have HS8 := Lib.hid ((Upd.refl (fun j => j = n3) w7).setCell (p := ⟨n3, 2, none⟩) (.inl rfl) (.slice a7 (k + 1) c7))
        have HU8 : Hid (Upd (fun j => (Value.slice la k lc).ownBlock = some j ∨ j = n3) wq (w7.setCell ⟨n3, 2, none⟩ (.slice a7 (k + 1) c7))) := Lib.hid (((((HW5.out.alloc (.cells #[.string z.name, .string z.sort, .slice ya z.kids.length yc] 24)).mono (fun _ _ x => x.elim)).trans (HG7.out.upd.mono (fun _ _ e => .inl e)))).trans (HS8.out.mono (fun _ _ e => .inr e)))
        have HJ8 := Lib.hid (HJ.out.grow (by rw [List.length_map]; exact hlt) HZX.out (by omega) HSZ.out HQ.out HW5.out HT5.out HBX5.out ((Upd.refl (fun _ => False) w5).alloc (.cells #[.string z.name, .string z.sort, .slice ya z.kids.length yc] 24)) HG7.out HS8.out)
        have hs3 := HS3.out
        have HE8 : Hid (Ext w (w7.setCell ⟨n3, 2, none⟩ (.slice a7 (k + 1) c7))) := Lib.hid ((HE.out.trans HQ.out).trans' HU8.out (fun j hj e => by
          rcases e with e | e
          · have h1 := (HJ.out.own.lt j e).1; omega
          · omega))
        have HB28 := Lib.hid (HU8.out.heap HB2Q.out (fun e => by
          rcases e with e | e
          · have h1 := (HJ.out.own.lt _ e).1; omega
          · omega))
        have hb38 := setBlock HB7.out 2 (.slice a7 (k + 1) c7)
        have HB38 : Hid ((w7.setCell ⟨n3, 2, none⟩ (.slice a7 (k + 1) c7)).heap[n3]? = some (.cells #[.string n, .string ⟨#[]⟩, .slice a7 (k + 1) c7] 24 (0, 0))) := Lib.hid (by simpa using hb38)
        have HS9 : Hid (n3 + 1 ≤ (w7.setCell ⟨n3, 2, none⟩ (.slice a7 (k + 1) c7)).heap.size) := Lib.hid (Nat.le_trans HSQ.out HU8.out.size)
        clear hb38 c2 f7
        go_roundg (L.length - (k + 1))
        case measure => omega
        case rel => exact ⟨k + 1, _, _, _, by go_num, rfl, by omega, HJ8, HB28, HB38, HE8, HS9⟩
    · obtain rfl : k = L.length := by omega
      have z2 : decide ((L.length : Int) < (L.length : Int)) = false := decide_eq_false (by omega)
      have hfin := HJ.out
      have hll : (L.map (sbT (bsu Bs))).length = L.length := List.length_map ..
      rw [← hll] at hfin
      have hfin := hfin.fin
      have HFIN := Lib.hid hfin
      rw [hll] at HFIN
      have c0 := cellRow HB3.out 0 (.string n) rfl
      have c1 := cellRow HB3.out 1 (.string ⟨#[]⟩) rfl
      have c2 := cellRow HB3.out 2 (.slice la L.length lc) rfl
      have f2 := fun i => frozenRow HB2.out i
      have d0 := cellRow HB2.out 0 (.string ⟨#[]⟩) rfl
      have d1 := cellRow HB2.out 1 (.string ⟨#[]⟩) rfl
      have d2 := cellRow HB2.out 2 (.slice none 0 0) rfl
      clear hfin hll
      go_wp2_with fail
      have hr3 := st3_heap HB2.out (.string n) (.string ⟨#[]⟩) (.slice la L.length lc)
      have hu := st3_upd' wr (w.heap.size + 1) (.string n) (.string ⟨#[]⟩) (.slice la L.length lc)
      have e0 := cellRow hr3 0 _ rfl
      have e1 := cellRow hr3 1 _ rfl
      have e2 := cellRow hr3 2 _ rfl
      have hs3 := HS3.out
      refine bodyPost_ret (v := .agg #[.string n, .string ⟨#[]⟩, .slice la L.length lc]) (by simp [results, Tryz.results80, go_sem, e0, e1, e2]) rfl ⟨.slice la L.length lc, fun j => n3 + 1 ≤ j ∧ j < wr.heap.size, by simp [List.length_map, nul], HFIN.out.kept hu (fun j hj e => by have h1 := hj.1; omega), fun j hj => ⟨by have h1 := hj.1; omega, Nat.lt_of_lt_of_le hj.2 hu.size⟩, HE.out.trans' hu (fun j hj e => by omega)⟩

end Go.Proofs.YtlkcjmaiahnodaaGreatDoor

/- apply, of unify. -/
namespace Go.Proofs.YtlkcjmaiahnodaaGreatDoor
open Go.RowKit Go.Hw Go
set_option linter.unusedVariables false
set_option linter.unusedSimpArgs false

open Tm Go.Sort Go.Proofs Go.ChangeMaps
theorem wf_var {t : Tm} {f : Vd} (h : wf nmB t = true) (hf : f ∈ vof t) (hs : f.2 ≠ nul) : wf nmB (vr f.1 f.2) = true := by
  obtain ⟨x, hx, h1, h2⟩ := vof_node hf
  obtain ⟨_, _, hn, _⟩ := wf_iff.1 h
  obtain ⟨n1, n2, n3⟩ := hn x hx
  rw [h1] at n1
  rw [h2] at n3
  have n4 := (n3.resolve_left hs).1
  refine wf_iff.2 ⟨by show 1 ≤ 1000; decide, by show 1 ≤ 60; decide, fun y hy => ?_, ?_⟩
  · have : y = vr f.1 f.2 := by
      rw [sbts_eq] at hy
      simpa [vr, Tm.kids] using hy
    rw [this]
    exact ⟨n1, by simp [vr, Tm.kids], .inr ⟨n4, rfl⟩⟩
  · rw [vof_vr hs]
    intro a ha b hb _
    simp at ha hb
    rw [ha, hb]
theorem bsu_wf {Bs : List Bd} {t : Tm} {f : Vd} (hv : vldB nmB Bs = true) (h : wf nmB t = true) (hf : f ∈ vof t) (hs : f.2 ≠ nul) : wf nmB (bsu Bs f.1 f.2) = true := by
  cases hb : bget Bs f.1 with
  | none => rw [bsu_none hb]; exact wf_var h hf hs
  | some T =>
    rw [bsu_some hb]
    obtain ⟨b, hb1, _, h3⟩ := bget_some hb
    rw [← h3]
    exact ((vldB_spec hv).2.2 b hb1).2.2.1
set_option maxRecDepth 100000 in
set_option maxHeartbeats 2000000 in
theorem uapply_x (Bs : List Bd) (t : Tm) (vB v : Value) (RB SB : Nat → Prop) (w : World) (htab : AscT w) (hB : BnR RB SB w vB Bs) (hSB : ∀ k, SB k → k < w.heap.size) (hR : TmR (fun k => k < w.heap.size) w t v) (hv : vldB nmB Bs = true) (hw : wf nmB t = true) :
    Calls Tryz.prog 88 #[vB, v] w fun e w' => ∃ r B, e = .returned (.tuple #[tV (app1 nmB Bs t).1 r, .int .i64 (app1 nmB Bs t).2]) ∧ TlO 24 w' B (app1 nmB Bs t).1.kids r ∧ (∀ j, B j → w.heap.size ≤ j ∧ j < w'.heap.size) ∧ Ext w w' := by
  have HR := Lib.hid hR
  have HBB := Lib.hid hB
  have HSB := Lib.hid hSB
  obtain ⟨Z, hZZ⟩ : ∃ Z, app1 nmB Bs t = Z := ⟨_, rfl⟩
  rw [hZZ]
  have HZZ := Lib.hid hZZ
  clear hZZ
  obtain ⟨va, vc, rfl⟩ := hB.shape
  obtain ⟨a, cap, rfl, hT⟩ := hR
  have hbl := (vldB_spec hv).1
  have hasc := (vldB_spec hv).2.1
  have htsz := wf_size hw
  have hvf := varsF_wf hw
  have hvl := varsT_len hw
  have hvm := (varsT_mem hw).2
  have HNP := Lib.hid (wf_nop hw)
  have HOKW : Hid (∀ f ∈ vof t, wf nmB (bsu Bs f.1 f.2) = true) := Lib.hid (fun f hf => bsu_wf hv hw hf (vof_ne hf))
  have HASC := Lib.hid hasc
  have HBL := Lib.hid hbl
  have HTS := Lib.hid htsz
  have HTAB := Lib.hid htab
  have HV := Lib.hid (fun W (hW : Ext w W) => tvars_x t _ W (asc_ext htab hW) ((HR.out.ext hW).weaken (fun k hk => Nat.lt_of_lt_of_le hk hW.size)) (by omega))
  rw [hvf] at HV
  have HBS := Lib.hid (fun nm W (hW : Ext w W) => bsB_x Bs (.slice va Bs.length vc) nm RB SB W (HBB.out.ext hW) hasc (by omega))
  have hcl : clsh Bs t = (varsT t).any fun f => match bsrt Bs f.1 with | some so => !decide (so = f.2) | none => false := rfl
  obtain ⟨VL, hVL⟩ : ∃ L, varsT t = L := ⟨_, rfl⟩
  rw [hVL] at HV hvl hcl
  have HCL := Lib.hid hcl
  have hlv : VL.length ≤ 100000 := by omega
  have HLV := Lib.hid hlv
  dsimp only [tV] at HV ⊢
  have hZ := (((Upd.refl (fun _ => False) w).alloc (.cells #[.slice va Bs.length vc] 27)).alloc (.cells #[.string t.name, .string t.sort, .slice a t.kids.length cap] 24)).alloc (.cells #[.string ⟨#[]⟩, .string ⟨#[]⟩, .slice none 0 0] 24)
  have H1 := Lib.hid (allocOld (allocOld (alloc0 w (.cells #[.slice va Bs.length vc] 27)) (.cells #[.string t.name, .string t.sort, .slice a t.kids.length cap] 24)) (.cells #[.string ⟨#[]⟩, .string ⟨#[]⟩, .slice none 0 0] 24))
  have H2 := Lib.hid (allocOld (alloc_at (w.alloc (.cells #[.slice va Bs.length vc] 27)) (.cells #[.string t.name, .string t.sort, .slice a t.kids.length cap] 24) (n := w.heap.size + 1) (by simp)) (.cells #[.string ⟨#[]⟩, .string ⟨#[]⟩, .slice none 0 0] 24))
  have H3 := Lib.hid (alloc_at ((w.alloc (.cells #[.slice va Bs.length vc] 27)).alloc (.cells #[.string t.name, .string t.sort, .slice a t.kids.length cap] 24)) (.cells #[.string ⟨#[]⟩, .string ⟨#[]⟩, .slice none 0 0] 24) (n := w.heap.size + 2) (by simp))
  have hz3 : w.heap.size + 3 ≤ (((w.alloc (.cells #[.slice va Bs.length vc] 27)).alloc (.cells #[.string t.name, .string t.sort, .slice a t.kids.length cap] 24)).alloc (.cells #[.string ⟨#[]⟩, .string ⟨#[]⟩, .slice none 0 0] 24)).heap.size := by simp
  have HZ3 := Lib.hid hz3
  have x0 := cellRow H2.out 0 (.string t.name) rfl
  have x1 := cellRow H2.out 1 (.string t.sort) rfl
  have x2 := cellRow H2.out 2 (.slice a t.kids.length cap) rfl
  have HZ := Lib.hid hZ
  clear hT htab hB hSB hv hw hbl hasc htsz hvf hvl hvm hcl hVL hlv hZ hz3
  go_enter Tryz.func88, Tryz.ntmps88
  go_wp2_with fail
  try rw [show w.heap.size + 1 + 1 = w.heap.size + 2 from rfl]
  generalize (((w.alloc (.cells #[.slice va Bs.length vc] 27)).alloc (.cells #[.string t.name, .string t.sort, .slice a t.kids.length cap] 24)).alloc (.cells #[.string ⟨#[]⟩, .string ⟨#[]⟩, .slice none 0 0] 24)) = wa at *
  refine (HV.out _ HZ.out).mono ?_
  rintro e w4 ⟨r1, rfl, hr1, hw4⟩
  have HE4 := Lib.hid (HZ.out.trans hw4)
  have H14 := Lib.hid (hw4.heap H1.out (fun h => h))
  have H24 := Lib.hid (hw4.heap H2.out (fun h => h))
  have H34 := Lib.hid (hw4.heap H3.out (fun h => h))
  have HS4 : Hid (w.heap.size + 3 ≤ w4.heap.size) := Lib.hid (Nat.le_trans HZ3.out hw4.size)
  have HF4 := Lib.hid hr1
  obtain ⟨p1, c1, hp1⟩ := FiR.shape hr1
  subst hp1
  clear hw4 x0 x1 x2 H1 H2 H3 HZ HZ3 HV hr1
  have hlv := HLV.out
  go_wp2_with fail
  go_loopg [23] VL.length (fun gk iv wr => ∃ k : Nat, iv = .int .i64 (k : Int) ∧ gk = VL.length - k ∧ k ≤ VL.length ∧ Hid (Ext w4 wr) ∧ Hid (∀ f ∈ VL.take k, (match bsrt Bs f.1 with | some so => !decide (so = f.2) | none => false) = false))
  case atStart => exact ⟨0, rfl, rfl, Nat.zero_le _, Lib.hid (Upd.refl _ _), Lib.hid (fun v hv => by simp at hv)⟩
  case round =>
    obtain ⟨k, rfl, rfl, hk, HE, HNM⟩ := hrel
    by_cases hlt : k < VL.length
    · obtain ⟨g, off, hga, hat⟩ := FiR.at_ (FiR.ext HF4.out HE.out) (by omega)
      subst hga
      obtain ⟨q0, q1⟩ := hat k hlt
      have htk := take_vg VL k hlt
      have hvm := vg_mem' hlt
      obtain ⟨v, hv⟩ : ∃ v, vg VL k = v := ⟨_, rfl⟩
      rw [hv] at q0 q1 htk hvm
      obtain ⟨nm, so⟩ := v
      simp only at q0 q1
      have z0 : (0 : Int) ≤ (k : Int) := by omega
      have z1 : (k : Int) < (VL.length : Int) := by omega
      have z2 : decide ((k : Int) < (VL.length : Int)) = true := decide_eq_true z1
      have z2' : decide (k < VL.length) = true := decide_eq_true hlt
      have hX5 := HE.out.alloc (.cells #[.string nm, .string so] 116)
      have HX5 := Lib.hid hX5
      have HB5 := Lib.hid (alloc0 wr (.cells #[.string nm, .string so] 116))
      have e0 := cellRow HB5.out 0 (.string nm) rfl
      have s0 := cellRow (hX5.heap H14.out (fun h => h)) 0 (.slice va Bs.length vc) rfl
      have HBI := Lib.hid (HBS.out nm _ (HE4.out.trans hX5))
      have hno : ∀ sb, bsrt Bs nm = some sb → sb ≠ so → Z = (.mk nul nul [], 11) := fun sb h1 h2 => by
        rw [← HZZ.out]
        unfold app1
        have : clsh Bs t = true := by
          rw [HCL.out, List.any_eq_true]
          refine ⟨(nm, so), hvm, ?_⟩
          simp only [h1]
          simp [h2]
        rw [if_pos this]
      have hyes : (match bsrt Bs nm with | some sb => !decide (sb = so) | none => false) = false → ∀ f ∈ VL.take (k + 1), (match bsrt Bs f.1 with | some so => !decide (so = f.2) | none => false) = false := fun h f hf => by
        rw [htk, List.mem_append, List.mem_singleton] at hf
        rcases hf with hf | hf
        · exact HNM.out f hf
        · rw [hf]; exact h
      have HNO := Lib.hid hno
      have HYES := Lib.hid hyes
      obtain ⟨F, hF⟩ : ∃ F, (bget Bs nm).isSome = F := ⟨_, rfl⟩
      rw [hF] at HBI
      have HF := Lib.hid hF
      clear hat htk hvm hv hX5 hno hyes hF
      go_wp2_with fail
      generalize wr.alloc (.cells #[.string nm, .string so] 116) = w5 at *
      refine HBI.out.mono ?_
      rintro e w6 ⟨rfl, hw6⟩
      have HE6 := Lib.hid (HX5.out.trans hw6)
      have HB6 := Lib.hid (hw6.heap HB5.out (fun h => h))
      have s0 := cellRow (HE6.out.heap H14.out (fun h => h)) 0 (.slice va Bs.length vc) rfl
      have e1 := cellRow HB6.out 1 (.string so) rfl
      clear hw6 HBI q0 q1 e0
      cases F with
      | false =>
        have HN2 := Lib.hid (HYES.out (by
          have : bsrt Bs nm = none := bsrt_none.2 (by
            have := HF.out
            cases hb : bget Bs nm with
            | none => rfl
            | some T => rw [hb] at this; cases this)
          rw [this]))
        go_wp2_with fail
        go_quiet (fail)
        go_wp2_with fail
        go_roundg (VL.length - (k + 1))
        case measure => omega
        case rel => exact ⟨k + 1, by go_num, rfl, by omega, Lib.hid (HE6.out.drewN' _), HN2⟩
      | true =>
        obtain ⟨hlm, _, hbs⟩ := lowK_some (n := nm) HASC.out HF.out
        obtain ⟨gb, ob, hgb, _, hatb⟩ := (HBB.out.ext (HE4.out.trans HE6.out)).at_ (by omega)
        subst hgb
        obtain ⟨xa, xc, _, p1, _, _, _, _⟩ := hatb _ hlm
        obtain ⟨m, hm⟩ : ∃ m, lowK Bs nm = m := ⟨_, rfl⟩
        rw [hm] at p1 hlm hbs ⊢
        have y0 : (0 : Int) ≤ (m : Int) := by omega
        have y1 : (m : Int) < (Bs.length : Int) := by omega
        obtain ⟨sb, hsb⟩ : ∃ x, (Go.Hw.bg Bs m).2.1 = x := ⟨_, rfl⟩
        rw [hsb] at p1 hbs
        have s1 := str_dc sb so
        have HBSR := Lib.hid hbs
        clear hatb hm hsb hbs
        by_cases he : sb = so
        · rw [decide_eq_true he] at s1
          have HN2 := Lib.hid (HYES.out (by rw [HBSR.out]; simp [he]))
          clear he
          go_wp2_with fail
          go_quiet (fail)
          go_wp2_with fail
          go_roundg (VL.length - (k + 1))
          case measure => omega
          case rel => exact ⟨k + 1, by go_num, rfl, by omega, Lib.hid (HE6.out.drewN' _), HN2⟩
        · rw [decide_eq_false he] at s1
          obtain rfl : Z = (.mk nul nul [], 11) := HNO.out sb HBSR.out he
          clear he
          have HE7 := Lib.hid (HE4.out.trans HE6.out)
          have H36 := Lib.hid (HE6.out.heap H34.out (fun h => h))
          go_wp2_with fail
          go_quiet (fail)
          have HE8 := Lib.hid (HE7.out.drewN' nq)
          have H38 := Lib.hid (((Upd.refl (fun _ => False) w6).drewN' nq).heap H36.out (fun h => h))
          generalize w6.drewN nq = w8 at *
          have d0 := cellRow H38.out 0 (.string ⟨#[]⟩) rfl
          have d1 := cellRow H38.out 1 (.string ⟨#[]⟩) rfl
          have d2 := cellRow H38.out 2 (.slice none 0 0) rfl
          have f2 := fun i => frozenRow H38.out i
          go_wp2_with fail
          have hr3 := st3_heap H38.out (.string ⟨#[]⟩) (.string ⟨#[]⟩) (.slice none 0 0)
          have hu := st3_upd' w8 (w.heap.size + 2) (.string ⟨#[]⟩) (.string ⟨#[]⟩) (.slice none 0 0)
          have e0 := cellRow hr3 0 _ rfl
          have e1 := cellRow hr3 1 _ rfl
          have e2 := cellRow hr3 2 _ rfl
          refine bodyPost_ret (v := .tuple #[.agg #[.string ⟨#[]⟩, .string ⟨#[]⟩, .slice none 0 0], .int .i64 11]) (by simp [results, Tryz.results88, go_sem, e0, e1, e2]) rfl ?_
          have hue := HE8.out.trans' hu (fun j hj e => by omega)
          first | exact ⟨.slice none 0 0, fun _ => False, rfl, TlO.nil _ _ _, fun j hj => hj.elim, hue⟩ | exact ⟨.slice none 0 0, rfl, fun _ => False, TlO.nil _ _ _, fun j hj => hj.elim, hue⟩
    · obtain rfl : k = VL.length := by omega
      have z2 : decide ((VL.length : Int) < (VL.length : Int)) = false := decide_eq_false (by omega)
      have HCF : Hid (clsh Bs t = false) := Lib.hid (by
        rw [HCL.out, List.any_eq_false]
        intro f hf
        have := HNM.out f (by rw [List.take_length]; exact hf)
        rw [this]; simp)
      have HE5 := Lib.hid (HE4.out.trans HE.out)
      have H15 := Lib.hid (HE.out.heap H14.out (fun h => h))
      have H25 := Lib.hid (HE.out.heap H24.out (fun h => h))
      have H35 := Lib.hid (HE.out.heap H34.out (fun h => h))
      have HS5 : Hid (w.heap.size + 3 ≤ wr.heap.size) := Lib.hid (Nat.le_trans HS4.out HE.out.size)
      have hX6 := (Upd.refl (fun _ => False) wr).alloc (.cells #[.func (.func 151) #[] #[.pointer (some ⟨w.heap.size, 0, none⟩)]] 90)
      have HX6 := Lib.hid hX6
      have HB6 := Lib.hid (alloc0 wr (.cells #[.func (.func 151) #[] #[.pointer (some ⟨w.heap.size, 0, none⟩)]] 90))
      have HE6 := Lib.hid (HE5.out.trans hX6)
      have H16 := Lib.hid (hX6.heap H15.out (fun h => h))
      have H26 := Lib.hid (hX6.heap H25.out (fun h => h))
      have H36 := Lib.hid (hX6.heap H35.out (fun h => h))
      have HME := Lib.hid (meas_x Bs (.slice va Bs.length vc) w.heap.size wr.heap.size RB SB (wr.alloc (.cells #[.func (.func 151) #[] #[.pointer (some ⟨w.heap.size, 0, none⟩)]] 90)) H16 HB6 (Lib.hid (HBB.out.ext HE6.out)) (Lib.hid (fun k hk => Nat.lt_of_lt_of_le (HSB.out k hk) HE6.out.size)) HASC (Lib.hid (by have := HBL.out; omega)) (Lib.hid (asc_ext HTAB.out HE6.out)) t _ (fun k => k < w.heap.size) (wr.alloc (.cells #[.func (.func 151) #[] #[.pointer (some ⟨w.heap.size, 0, none⟩)]] 90)) (Upd.refl _ _) (HR.out.ext HE6.out) (fun k hk => Nat.lt_of_lt_of_le hk HE6.out.size) (by have := HTS.out; omega) HNP.out HOKW.out)
      dsimp only [tV] at HME
      have v0 := cellRow HB6.out 0 (.func (.func 151) #[] #[.pointer (some ⟨w.heap.size, 0, none⟩)]) rfl
      have x0 := cellRow H26.out 0 (.string t.name) rfl
      have x1 := cellRow H26.out 1 (.string t.sort) rfl
      have x2 := cellRow H26.out 2 (.slice a t.kids.length cap) rfl
      clear hX6 H24 H34 H14 HE HF4 HNM
      go_wp2_with fail
      obtain ⟨vb, hvb⟩ : ∃ n, wr.heap.size = n := ⟨_, rfl⟩
      rw [hvb] at HME HB6 v0 HS5
      try rw [hvb]
      clear hvb
      generalize wr.alloc (.cells #[.func (.func 151) #[] #[.pointer (some ⟨w.heap.size, 0, none⟩)]] 90) = w6 at *
      refine HME.out.mono ?_
      rintro e w7 ⟨rfl, hw7⟩
      have HE7 := Lib.hid (HE6.out.trans hw7)
      have H17 := Lib.hid (hw7.heap H16.out (fun h => h))
      have H27 := Lib.hid (hw7.heap H26.out (fun h => h))
      have H37 := Lib.hid (hw7.heap H36.out (fun h => h))
      have HB7 := Lib.hid (hw7.heap HB6.out (fun h => h))
      obtain ⟨z, hz⟩ : ∃ z, sbB Bs t = z := ⟨_, rfl⟩
      rw [hz]
      have HZT := Lib.hid hz
      obtain ⟨A1, hA1⟩ : ∃ n, min z.size 1001 = n := ⟨_, rfl⟩
      obtain ⟨A2, hA2⟩ : ∃ n, min z.depth 61 = n := ⟨_, rfl⟩
      rw [hA1, hA2]
      have HA := Lib.hid (And.intro hA1 hA2)
      clear hw7 HME hz hA1 hA2 x0 x1 x2 v0 H16 H26 H36 HB6 HE6 HX6
      by_cases hbig : 1000 < z.size ∨ 60 < z.depth
      · obtain rfl : Z = (.mk nul nul [], 4) := by
          rw [← HZZ.out]
          unfold app1
          rw [if_neg (by rw [HCF.out]; simp), if_pos (by rw [HZT.out]; exact hbig)]
        by_cases hb1 : 1000 < A1
        · have y1 : decide ((1000 : Int) < (A1 : Int)) = true := decide_eq_true (by omega)
          have y1' : (1000 : Int) < (A1 : Int) := by omega
          clear hbig hb1
          have d0 := cellRow H37.out 0 (.string ⟨#[]⟩) rfl
          have d1 := cellRow H37.out 1 (.string ⟨#[]⟩) rfl
          have d2 := cellRow H37.out 2 (.slice none 0 0) rfl
          have f2 := fun i => frozenRow H37.out i
          go_wp2_with fail
          have hr3 := st3_heap H37.out (.string ⟨#[]⟩) (.string ⟨#[]⟩) (.slice none 0 0)
          have hu := st3_upd' w7 (w.heap.size + 2) (.string ⟨#[]⟩) (.string ⟨#[]⟩) (.slice none 0 0)
          have e0 := cellRow hr3 0 _ rfl
          have e1 := cellRow hr3 1 _ rfl
          have e2 := cellRow hr3 2 _ rfl
          refine bodyPost_ret (v := .tuple #[.agg #[.string ⟨#[]⟩, .string ⟨#[]⟩, .slice none 0 0], .int .i64 4]) (by simp [results, Tryz.results88, go_sem, e0, e1, e2]) rfl ?_
          have hue := HE7.out.trans' hu (fun j hj e => by omega)
          first | exact ⟨.slice none 0 0, fun _ => False, rfl, TlO.nil _ _ _, fun j hj => hj.elim, hue⟩ | exact ⟨.slice none 0 0, rfl, fun _ => False, TlO.nil _ _ _, fun j hj => hj.elim, hue⟩
        · have y1 : decide ((1000 : Int) < (A1 : Int)) = false := decide_eq_false (by omega)
          have y1' : ¬ (1000 : Int) < (A1 : Int) := by omega
          have y2' : (60 : Int) < (A2 : Int) := by have := HA.out; omega
          have y2 : decide ((60 : Int) < (A2 : Int)) = true := decide_eq_true y2'
          clear hbig hb1
          have d0 := cellRow H37.out 0 (.string ⟨#[]⟩) rfl
          have d1 := cellRow H37.out 1 (.string ⟨#[]⟩) rfl
          have d2 := cellRow H37.out 2 (.slice none 0 0) rfl
          have f2 := fun i => frozenRow H37.out i
          go_wp2_with fail
          have hr3 := st3_heap H37.out (.string ⟨#[]⟩) (.string ⟨#[]⟩) (.slice none 0 0)
          have hu := st3_upd' w7 (w.heap.size + 2) (.string ⟨#[]⟩) (.string ⟨#[]⟩) (.slice none 0 0)
          have e0 := cellRow hr3 0 _ rfl
          have e1 := cellRow hr3 1 _ rfl
          have e2 := cellRow hr3 2 _ rfl
          refine bodyPost_ret (v := .tuple #[.agg #[.string ⟨#[]⟩, .string ⟨#[]⟩, .slice none 0 0], .int .i64 4]) (by simp [results, Tryz.results88, go_sem, e0, e1, e2]) rfl ?_
          have hue := HE7.out.trans' hu (fun j hj e => by omega)
          first | exact ⟨.slice none 0 0, fun _ => False, rfl, TlO.nil _ _ _, fun j hj => hj.elim, hue⟩ | exact ⟨.slice none 0 0, rfl, fun _ => False, TlO.nil _ _ _, fun j hj => hj.elim, hue⟩
      have y1' : ¬ (1000 : Int) < (A1 : Int) := by have := HA.out; omega
      have y2' : ¬ (60 : Int) < (A2 : Int) := by have := HA.out; omega
      have y1 : decide ((1000 : Int) < (A1 : Int)) = false := decide_eq_false y1'
      have y2 : decide ((60 : Int) < (A2 : Int)) = false := decide_eq_false y2'
      have HBG := Lib.hid hbig
      have HRP := Lib.hid (rep151_x Bs (.slice va Bs.length vc) w.heap.size RB SB w7 H17 (Lib.hid (HBB.out.ext HE7.out)) (Lib.hid (fun k hk => Nat.lt_of_lt_of_le (HSB.out k hk) HE7.out.size)) HASC (Lib.hid (by have := HBL.out; omega)) t _ (fun k => k < w.heap.size) w7 (Upd.refl _ _) (HR.out.ext HE7.out) (fun k hk => Nat.lt_of_lt_of_le hk HE7.out.size) (by have := HTS.out; omega) HNP.out (fun f hf => by have := wf_size (HOKW.out f hf); omega))
      have hzz : sbT (bsu Bs) t = z := HZT.out
      rw [hzz] at HRP
      dsimp only [tV] at HRP
      have v0 := cellRow HB7.out 0 (.func (.func 151) #[] #[.pointer (some ⟨w.heap.size, 0, none⟩)]) rfl
      have x0 := cellRow H27.out 0 (.string t.name) rfl
      have x1 := cellRow H27.out 1 (.string t.sort) rfl
      have x2 := cellRow H27.out 2 (.slice a t.kids.length cap) rfl
      clear hbig hzz
      go_wp2_with fail
      refine HRP.out.mono ?_
      rintro e w8 ⟨r8, B8, rfl, hT8, hb8, hw8⟩
      obtain ⟨ya, yc, hry⟩ := TlO.shape hT8
      subst hry
      have hX9 := (Upd.refl (fun _ => False) w8).alloc (.cells #[.string z.name, .string z.sort, .slice ya z.kids.length yc] 24)
      have HT9 := Lib.hid (hT8.kept hX9 (fun _ _ h => h))
      have HB9 := Lib.hid (alloc0 w8 (.cells #[.string z.name, .string z.sort, .slice ya z.kids.length yc] 24))
      have HE9 := Lib.hid (HE7.out.trans (hw8.trans hX9))
      have H39 := Lib.hid ((hw8.trans hX9).heap H37.out (fun h => h))
      have HBB9 : Hid (∀ j, B8 j → w.heap.size + 3 ≤ j ∧ j < (w8.alloc (.cells #[.string z.name, .string z.sort, .slice ya z.kids.length yc] 24)).heap.size) := Lib.hid (fun j hj => ⟨by have h1 := (hb8 j hj).1; have h2 := HS5.out; have h3 : vb < w7.heap.size := (Array.getElem?_eq_some_iff.1 HB7.out).1; omega, Nat.lt_of_lt_of_le (hb8 j hj).2 hX9.size⟩)
      have HFO := Lib.hid (uform_x z (tV z (.slice ya z.kids.length yc)) (w8.alloc (.cells #[.string z.name, .string z.sort, .slice ya z.kids.length yc] 24)) (asc_ext HTAB.out HE9.out) ⟨ya, yc, rfl, (HT9.out.read).weaken (fun k hk => (HBB9.out k hk).2)⟩ (by have := HBG.out; omega))
      dsimp only [tV] at HFO ⊢
      clear hT8 hb8 hw8 hX9 HRP x0 x1 x2 v0 H17 H27 H37 HB7
      have x0 := cellRow HB9.out 0 (.string z.name) rfl
      have x1 := cellRow HB9.out 1 (.string z.sort) rfl
      have x2 := cellRow HB9.out 2 (.slice ya z.kids.length yc) rfl
      go_wp2_with fail
      generalize w8.alloc (.cells #[.string z.name, .string z.sort, .slice ya z.kids.length yc] 24) = w9 at *
      refine HFO.out.mono ?_
      rintro e w10 ⟨rfl, hw10⟩
      have HE10 := Lib.hid (HE9.out.trans hw10)
      have H310 := Lib.hid (hw10.heap H39.out (fun h => h))
      have HB10 := Lib.hid (hw10.heap HB9.out (fun h => h))
      have HT10 := Lib.hid (HT9.out.kept hw10 (fun _ _ h => h))
      have HBB10 : Hid (∀ j, B8 j → w.heap.size + 3 ≤ j ∧ j < w10.heap.size) := Lib.hid (fun j hj => ⟨(HBB9.out j hj).1, Nat.lt_of_lt_of_le (HBB9.out j hj).2 hw10.size⟩)
      clear hw10 HFO x0 x1 x2 HB9 H39 HT9 HBB9 HE9
      cases hwz : wf nmB z with
      | false =>
        obtain rfl : Z = (.mk nul nul [], 11) := by
          rw [← HZZ.out]
          unfold app1
          rw [if_neg (by rw [HCF.out]; simp), if_neg (by rw [HZT.out]; exact HBG.out), if_pos (by rw [HZT.out]; exact hwz)]
        clear hwz
        have d0 := cellRow H310.out 0 (.string ⟨#[]⟩) rfl
        have d1 := cellRow H310.out 1 (.string ⟨#[]⟩) rfl
        have d2 := cellRow H310.out 2 (.slice none 0 0) rfl
        have f2 := fun i => frozenRow H310.out i
        go_wp2_with fail
        have hr3 := st3_heap H310.out (.string ⟨#[]⟩) (.string ⟨#[]⟩) (.slice none 0 0)
        have hu := st3_upd' w10 (w.heap.size + 2) (.string ⟨#[]⟩) (.string ⟨#[]⟩) (.slice none 0 0)
        have e0 := cellRow hr3 0 _ rfl
        have e1 := cellRow hr3 1 _ rfl
        have e2 := cellRow hr3 2 _ rfl
        refine bodyPost_ret (v := .tuple #[.agg #[.string ⟨#[]⟩, .string ⟨#[]⟩, .slice none 0 0], .int .i64 11]) (by simp [results, Tryz.results88, go_sem, e0, e1, e2]) rfl ?_
        have hue := HE10.out.trans' hu (fun j hj e => by omega)
        first | exact ⟨.slice none 0 0, fun _ => False, rfl, TlO.nil _ _ _, fun j hj => hj.elim, hue⟩ | exact ⟨.slice none 0 0, rfl, fun _ => False, TlO.nil _ _ _, fun j hj => hj.elim, hue⟩
      | true =>
        obtain rfl : Z = (z, 0) := by
          rw [← HZZ.out]
          unfold app1
          rw [if_neg (by rw [HCF.out]; simp), if_neg (by rw [HZT.out]; exact HBG.out), if_neg (by rw [HZT.out, hwz]; simp), HZT.out]
        clear hwz
        have x0 := cellRow HB10.out 0 (.string z.name) rfl
        have x1 := cellRow HB10.out 1 (.string z.sort) rfl
        have x2 := cellRow HB10.out 2 (.slice ya z.kids.length yc) rfl
        have d0 := cellRow H310.out 0 (.string ⟨#[]⟩) rfl
        have d1 := cellRow H310.out 1 (.string ⟨#[]⟩) rfl
        have d2 := cellRow H310.out 2 (.slice none 0 0) rfl
        have f2 := fun i => frozenRow H310.out i
        go_wp2_with fail
        have hr3 := st3_heap H310.out (.string z.name) (.string z.sort) (.slice ya z.kids.length yc)
        have hu := st3_upd' w10 (w.heap.size + 2) (.string z.name) (.string z.sort) (.slice ya z.kids.length yc)
        have e0 := cellRow hr3 0 _ rfl
        have e1 := cellRow hr3 1 _ rfl
        have e2 := cellRow hr3 2 _ rfl
        refine bodyPost_ret (v := .tuple #[.agg #[.string z.name, .string z.sort, .slice ya z.kids.length yc], .int .i64 0]) (by simp [results, Tryz.results88, go_sem, e0, e1, e2]) rfl ?_
        have hue := HE10.out.trans' hu (fun j hj e => by omega)
        have own := HT10.out.kept hu (fun j hj e => by have h3 := (HBB10.out j hj).1; omega)
        have rng : ∀ j, B8 j → w.heap.size ≤ j ∧ j < _ := fun j hj => ⟨by have h3 := (HBB10.out j hj).1; omega, Nat.lt_of_lt_of_le (HBB10.out j hj).2 hu.size⟩
        first | exact ⟨.slice ya z.kids.length yc, B8, rfl, own, rng, hue⟩ | exact ⟨.slice ya z.kids.length yc, rfl, B8, own, rng, hue⟩

end Go.Proofs.YtlkcjmaiahnodaaGreatDoor

/- Apply, of unify. -/
namespace Go.Proofs.YtlkcjmaiahnodaaGreatDoor
open Go.RowKit Go.Hw Go
set_option linter.unusedVariables false
set_option linter.unusedSimpArgs false

open Tm Go.Sort Go.Proofs Go.ChangeMaps
set_option maxRecDepth 100000 in
set_option maxHeartbeats 2000000 in
theorem uApply_x (Bs : List Bd) (t : Tm) (vB v : Value) (w : World) (htab : AscT w) (hB : BnR (fun k => k < w.heap.size) (fun k => k < w.heap.size) w vB Bs) (hR : TmR (fun k => k < w.heap.size) w t v) (hl : Bs.length ≤ 1000000) (hs : ∀ b ∈ Bs, (b.2.2.size : Int) ≤ 1000000000000) (ht : (t.size : Int) ≤ 1000000000000) :
    Calls Tryz.prog 29 #[vB, v] w fun e w' => ∃ r B, e = .returned (.tuple #[tV (appF nmB Bs t).1 r, .int .i64 (appF nmB Bs t).2]) ∧ TlO 24 w' B (appF nmB Bs t).1.kids r ∧ (∀ j, B j → w.heap.size ≤ j ∧ j < w'.heap.size) ∧ Ext w w' := by
  obtain ⟨Z, hZZ⟩ : ∃ Z, appF nmB Bs t = Z := ⟨_, rfl⟩
  rw [hZZ]
  have HZZ := Lib.hid hZZ
  clear hZZ
  have HR := Lib.hid hR
  have HV := Lib.hid (fun W (hW : Ext w W) => valid_x Bs vB W (asc_ext htab hW) ((hB.ext hW).weaken (fun k hk => Nat.lt_of_lt_of_le hk hW.size) (fun k hk => Nat.lt_of_lt_of_le hk hW.size)) hl hs)
  have HF := Lib.hid (fun W (hW : Ext w W) => uform_x t v W (asc_ext htab hW) ((hR.ext hW).weaken (fun k hk => Nat.lt_of_lt_of_le hk hW.size)) ht)
  have HA := Lib.hid (fun (h1 : vldB nmB Bs = true) (h2 : wf nmB t = true) W (hW : Ext w W) => uapply_x Bs t vB v _ (fun k => k < w.heap.size) W (asc_ext htab hW) (hB.ext hW) (fun k hk => Nat.lt_of_lt_of_le hk hW.size) ((hR.ext hW).weaken (fun k hk => Nat.lt_of_lt_of_le hk hW.size)) h1 h2)
  obtain ⟨va, vc, rfl⟩ := hB.shape
  obtain ⟨a, cap, rfl, hT⟩ := hR
  dsimp only [tV] at HF HA ⊢
  have hZ := ((Upd.refl (fun _ => False) w).alloc (.cells #[.string t.name, .string t.sort, .slice a t.kids.length cap] 24)).alloc (.cells #[.string ⟨#[]⟩, .string ⟨#[]⟩, .slice none 0 0] 24)
  have H2 := Lib.hid (allocOld (alloc0 w (.cells #[.string t.name, .string t.sort, .slice a t.kids.length cap] 24)) (.cells #[.string ⟨#[]⟩, .string ⟨#[]⟩, .slice none 0 0] 24))
  have H3 := Lib.hid (alloc_at (w.alloc (.cells #[.string t.name, .string t.sort, .slice a t.kids.length cap] 24)) (.cells #[.string ⟨#[]⟩, .string ⟨#[]⟩, .slice none 0 0] 24) (n := w.heap.size + 1) (by simp))
  have hz2 : w.heap.size + 2 ≤ ((w.alloc (.cells #[.string t.name, .string t.sort, .slice a t.kids.length cap] 24)).alloc (.cells #[.string ⟨#[]⟩, .string ⟨#[]⟩, .slice none 0 0] 24)).heap.size := by simp
  have HZ2 := Lib.hid hz2
  have x0 := cellRow H2.out 0 (.string t.name) rfl
  have x1 := cellRow H2.out 1 (.string t.sort) rfl
  have x2 := cellRow H2.out 2 (.slice a t.kids.length cap) rfl
  have HZ := Lib.hid hZ
  have hAP : Hid (Z = if (vldB nmB Bs && wf nmB t) = true then app1 nmB Bs t else (.mk nul nul [], 1)) := Lib.hid (by rw [← HZZ.out]; rfl)
  obtain ⟨Q, hQ⟩ : ∃ Q, app1 nmB Bs t = Q := ⟨_, rfl⟩
  obtain ⟨b1, hb1⟩ : ∃ b, vldB nmB Bs = b := ⟨_, rfl⟩
  obtain ⟨b2, hb2⟩ : ∃ b, wf nmB t = b := ⟨_, rfl⟩
  rw [hb1] at HV HA hAP
  rw [hb2] at HF HA hAP
  rw [hQ] at HA hAP
  clear hT htab hB hl hs ht hZ hz2 HZZ hQ hb1 hb2 HR
  go_enter Tryz.func29, Tryz.ntmps29
  go_wp2_with fail
  generalize ((w.alloc (.cells #[.string t.name, .string t.sort, .slice a t.kids.length cap] 24)).alloc (.cells #[.string ⟨#[]⟩, .string ⟨#[]⟩, .slice none 0 0] 24)) = wa at *
  refine (HV.out _ HZ.out).mono ?_
  rintro e w3 ⟨rfl, hw3⟩
  have HE3 := Lib.hid (HZ.out.trans hw3)
  have H23 := Lib.hid (hw3.heap H2.out (fun h => h))
  have H33 := Lib.hid (hw3.heap H3.out (fun h => h))
  have HS3 : Hid (w.heap.size + 2 ≤ w3.heap.size) := Lib.hid (Nat.le_trans HZ2.out hw3.size)
  clear hw3 x0 x1 x2 H2 H3 HZ HV HZ2
  cases b1
  · obtain rfl : Z = (.mk nul nul [], 1) := by have := hAP.out; simpa using this
    have d0 := cellRow H33.out 0 (.string ⟨#[]⟩) rfl
    have d1 := cellRow H33.out 1 (.string ⟨#[]⟩) rfl
    have d2 := cellRow H33.out 2 (.slice none 0 0) rfl
    have f2 := fun i => frozenRow H33.out i
    go_wp2_with fail
    have hr3 := st3_heap H33.out (.string ⟨#[]⟩) (.string ⟨#[]⟩) (.slice none 0 0)
    have hu := st3_upd' w3 (w.heap.size + 1) (.string ⟨#[]⟩) (.string ⟨#[]⟩) (.slice none 0 0)
    have e0 := cellRow hr3 0 _ rfl
    have e1 := cellRow hr3 1 _ rfl
    have e2 := cellRow hr3 2 _ rfl
    refine bodyPost_ret (v := .tuple #[.agg #[.string ⟨#[]⟩, .string ⟨#[]⟩, .slice none 0 0], .int .i64 1]) (by simp [results, Tryz.results29, go_sem, e0, e1, e2]) rfl ?_
    have hue := HE3.out.trans' hu (fun j hj e => by omega)
    first | exact ⟨.slice none 0 0, fun _ => False, rfl, TlO.nil _ _ _, fun j hj => hj.elim, hue⟩ | exact ⟨.slice none 0 0, rfl, fun _ => False, TlO.nil _ _ _, fun j hj => hj.elim, hue⟩
  have x0 := cellRow H23.out 0 (.string t.name) rfl
  have x1 := cellRow H23.out 1 (.string t.sort) rfl
  have x2 := cellRow H23.out 2 (.slice a t.kids.length cap) rfl
  go_wp2_with fail
  refine (HF.out _ HE3.out).mono ?_
  rintro e w4 ⟨rfl, hw4⟩
  have HE4 := Lib.hid (HE3.out.trans hw4)
  have H24 := Lib.hid (hw4.heap H23.out (fun h => h))
  have H34 := Lib.hid (hw4.heap H33.out (fun h => h))
  have HS4 : Hid (w.heap.size + 2 ≤ w4.heap.size) := Lib.hid (Nat.le_trans HS3.out hw4.size)
  clear hw4 x0 x1 x2 H23 H33 HE3 HF HS3
  cases b2
  · obtain rfl : Z = (.mk nul nul [], 1) := by have := hAP.out; simpa using this
    have d0 := cellRow H34.out 0 (.string ⟨#[]⟩) rfl
    have d1 := cellRow H34.out 1 (.string ⟨#[]⟩) rfl
    have d2 := cellRow H34.out 2 (.slice none 0 0) rfl
    have f2 := fun i => frozenRow H34.out i
    go_wp2_with fail
    have hr3 := st3_heap H34.out (.string ⟨#[]⟩) (.string ⟨#[]⟩) (.slice none 0 0)
    have hu := st3_upd' w4 (w.heap.size + 1) (.string ⟨#[]⟩) (.string ⟨#[]⟩) (.slice none 0 0)
    have e0 := cellRow hr3 0 _ rfl
    have e1 := cellRow hr3 1 _ rfl
    have e2 := cellRow hr3 2 _ rfl
    refine bodyPost_ret (v := .tuple #[.agg #[.string ⟨#[]⟩, .string ⟨#[]⟩, .slice none 0 0], .int .i64 1]) (by simp [results, Tryz.results29, go_sem, e0, e1, e2]) rfl ?_
    have hue := HE4.out.trans' hu (fun j hj e => by omega)
    first | exact ⟨.slice none 0 0, fun _ => False, rfl, TlO.nil _ _ _, fun j hj => hj.elim, hue⟩ | exact ⟨.slice none 0 0, rfl, fun _ => False, TlO.nil _ _ _, fun j hj => hj.elim, hue⟩
  obtain rfl : Z = Q := by have := hAP.out; simpa using this
  have x0 := cellRow H24.out 0 (.string t.name) rfl
  have x1 := cellRow H24.out 1 (.string t.sort) rfl
  have x2 := cellRow H24.out 2 (.slice a t.kids.length cap) rfl
  have HA2 := Lib.hid (HA.out (by simp) (by simp) w4 HE4.out)
  obtain ⟨z, en⟩ := Z
  dsimp only at HA2 ⊢
  clear HA hAP
  go_wp2_with fail
  refine HA2.out.mono ?_
  rintro e w6 ⟨r6, B6, rfl, hT6, hb6, hw6⟩
  obtain ⟨ya, yc, hry⟩ := TlO.shape hT6
  subst hry
  have HT6 := Lib.hid hT6
  have HE6 := Lib.hid (HE4.out.trans hw6)
  have H36 := Lib.hid (hw6.heap H34.out (fun h => h))
  have HBB6 : Hid (∀ j, B6 j → w.heap.size + 2 ≤ j ∧ j < w6.heap.size) := Lib.hid (fun j hj => ⟨Nat.le_trans HS4.out (hb6 j hj).1, (hb6 j hj).2⟩)
  dsimp only [tV]
  clear hT6 hb6 hw6 HA2 x0 x1 x2
  have d0 := cellRow H36.out 0 (.string ⟨#[]⟩) rfl
  have d1 := cellRow H36.out 1 (.string ⟨#[]⟩) rfl
  have d2 := cellRow H36.out 2 (.slice none 0 0) rfl
  have f2 := fun i => frozenRow H36.out i
  go_wp2_with fail
  have hr3 := st3_heap H36.out (.string z.name) (.string z.sort) (.slice ya z.kids.length yc)
  have hu := st3_upd' w6 (w.heap.size + 1) (.string z.name) (.string z.sort) (.slice ya z.kids.length yc)
  have e0 := cellRow hr3 0 _ rfl
  have e1 := cellRow hr3 1 _ rfl
  have e2 := cellRow hr3 2 _ rfl
  refine bodyPost_ret (v := .tuple #[.agg #[.string z.name, .string z.sort, .slice ya z.kids.length yc], .int .i64 en]) (by simp [results, Tryz.results29, go_sem, e0, e1, e2]) rfl ?_
  have hue := HE6.out.trans' hu (fun j hj e => by omega)
  have own := HT6.out.kept hu (fun j hj e => by have h3 := (HBB6.out j hj).1; omega)
  have rng : ∀ j, B6 j → w.heap.size ≤ j ∧ j < _ := fun j hj => ⟨by have h3 := (HBB6.out j hj).1; omega, Nat.lt_of_lt_of_le (HBB6.out j hj).2 hu.size⟩
  first | exact ⟨.slice ya z.kids.length yc, B6, rfl, own, rng, hue⟩ | exact ⟨.slice ya z.kids.length yc, rfl, B6, own, rng, hue⟩

end Go.Proofs.YtlkcjmaiahnodaaGreatDoor

/- clashes, of the reference. -/
namespace Go.Proofs.YtlkcjmaiahnodaaGreatDoor
open Go.RowKit Go.Hw Go
set_option linter.unusedVariables false
set_option linter.unusedSimpArgs false

open Tm Go.Sort Go.Proofs Go.ChangeMaps
end Go.Proofs.YtlkcjmaiahnodaaGreatDoor
