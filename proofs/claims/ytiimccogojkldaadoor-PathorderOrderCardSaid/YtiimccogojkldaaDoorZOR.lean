/- The texts I75 Order, one behind the other. -/
import Derived.Test.YtiimccogojkldaaDoorZP
import Derived.Test.YtiimccogojkldaaDoorZB
import Derived.Test.YtiimccogojkldaaDoorZI
import Derived.Test.YtiimccogojkldaaDoorZJ
import Derived.Deep.DeepCutAuto
import Derived.Test.YtiimccogojkldaaDoorZK
/- The law Order. -/
namespace Go.Proofs.YtiimccogojkldaaDoor
open Go.RowKit Go.Hw Go
set_option linter.unusedVariables false
set_option linter.unusedSimpArgs false

open Tm
/-- what the law's own function answers -/
def abF (ops : List By) (x y : Tm) : Bool := (knowsP ops x && knowsP ops y) && gt (ixF ops) x y
theorem abF_irr {ops : List By} {x : Tm} : abF ops x x = false := by unfold abF; rw [gt_irrefl]; simp
theorem abF_asym {ops : List By} {x y : Tm} (h : abF ops x y = true) : abF ops y x = false := by
  unfold abF at h ⊢
  rw [Bool.and_eq_true] at h
  rw [gt_asymm (ixF ops) h.2]; simp
theorem abF_trans {ops : List By} {x y z : Tm} (h : abF ops x y = true) (h2 : abF ops y z = true) : abF ops x z = true := by
  unfold abF at h h2 ⊢
  simp only [Bool.and_eq_true] at h h2 ⊢
  exact ⟨⟨h.1.1, h2.1.2⟩, gt_trans (ixF ops) h.2 h2.2⟩
set_option maxRecDepth 100000 in
set_option maxHeartbeats 2000000 in
theorem clo_x (ops : List By) (x y : Tm) (xa ya : Option Addr) (xc yc : Nat) (oa : Option Addr) (oc : Nat) (bo bb : Nat) (w : World) (ho : w.heap[bo]? = some (.cells #[.slice oa ops.length oc] 22 (0, 0))) (hb : w.heap[bb]? = some (.cells #[.bool false] 4 (0, 0))) (hne : bo ≠ bb) (hO : StR (fun k => k < w.heap.size) w (.slice oa ops.length oc) ops)
    (hx : TmR (fun k => k < w.heap.size) w x (.agg #[.string x.name, .string x.sort, .slice xa x.kids.length xc])) (hy : TmR (fun k => k < w.heap.size) w y (.agg #[.string y.name, .string y.sort, .slice ya y.kids.length yc])) (htab : AscT w) (hpow : Lib.TabIs Tryd.prog w "internal/strconv.uint64pow10" .u64 Lib.pow10Tab) (hp : precP nmB ops = true) (hwx : wf nmB x = true) (hwy : wf nmB y = true) (hol : ops.length ≤ 1000000) :
    Calls Tryd.prog 9 #[.agg #[.string x.name, .string x.sort, .slice xa x.kids.length xc], .agg #[.string y.name, .string y.sort, .slice ya y.kids.length yc], .pointer (some ⟨bo, 0, none⟩), .pointer (some ⟨bb, 0, none⟩)] w fun e w' => e = .returned (.bool (abF ops x y)) ∧ Upd (fun k => k = bb) w w' ∧ w'.heap[bb]? = some (.cells #[.bool false] 4 (0, 0)) := by
  have hZ := ((Upd.refl (fun _ => False) w).alloc (.cells #[.string x.name, .string x.sort, .slice xa x.kids.length xc] 25)).alloc (.cells #[.string y.name, .string y.sort, .slice ya y.kids.length yc] 25)
  have h1 := allocOld (alloc0 w (.cells #[.string x.name, .string x.sort, .slice xa x.kids.length xc] 25)) (.cells #[.string y.name, .string y.sort, .slice ya y.kids.length yc] 25)
  have h2 := alloc_at (w.alloc (.cells #[.string x.name, .string x.sort, .slice xa x.kids.length xc] 25)) (.cells #[.string y.name, .string y.sort, .slice ya y.kids.length yc] 25) (n := w.heap.size + 1) (by simp)
  have HOZ := Lib.hid (hZ.heap ho (fun h => h))
  have HBZ := Lib.hid (hZ.heap hb (fun h => h))
  have HZ := Lib.hid hZ
  have HG := Lib.hid (pgreater_x ops x y _ _ _ _ _ (asc_ext htab hZ) (pow_upd hpow hZ (fun _ _ h => h)) (SlR.kept hO hZ (fun _ _ h => h)) (hx.ext hZ) (hy.ext hZ) (fun k hk => Nat.lt_of_lt_of_le hk hZ.size) hol (by have := wf_size hwx; omega) (by have := wf_size hwy; omega))
  have HBL := Lib.hid (Array.getElem?_eq_some_iff.1 hb).1
  have hg : grF ops x y = if (knowsP ops x && knowsP ops y) = true then (gt (ixF ops) x y, 0) else (false, 9) := by
    unfold grF
    rw [if_neg (by rw [hp, hwx, hwy]; simp)]
    cases knowsP ops x <;> cases knowsP ops y <;> simp
  rw [hg] at HG
  unfold abF
  obtain ⟨K, hK⟩ : ∃ K, (knowsP ops x && knowsP ops y) = K := ⟨_, rfl⟩
  rw [hK] at HG ⊢
  obtain ⟨G, hG⟩ : ∃ G, gt (ixF ops) x y = G := ⟨_, rfl⟩
  rw [hG] at HG ⊢
  have x0 := cellRow h1 0 (.string x.name) rfl
  have x1 := cellRow h1 1 (.string x.sort) rfl
  have x2 := cellRow h1 2 (.slice xa x.kids.length xc) rfl
  have y0 := cellRow h2 0 (.string y.name) rfl
  have y1 := cellRow h2 1 (.string y.sort) rfl
  have y2 := cellRow h2 2 (.slice ya y.kids.length yc) rfl
  have o0 := cellRow HOZ.out 0 (.slice oa ops.length oc) rfl
  clear h1 h2 hZ ho hb hO hx hy htab hpow hp hwx hwy hg hK hG
  cases K
  · simp only [Bool.false_eq_true, if_false] at HG
    go_enter Tryd.func9, Tryd.ntmps9
    go_wp2_with fail
    refine HG.out.mono ?_
    rintro e w4 ⟨rfl, hw4⟩
    have H4 := Lib.hid (HZ.out.trans hw4)
    have HB4 := Lib.hid (hw4.heap HBZ.out (fun h => h))
    clear hw4 x0 x1 x2 y0 y1 y2 o0 HG HBZ HOZ HZ
    have d0 := cellRow HB4.out 0 (.bool false) rfl
    have f0 := fun i => frozenRow HB4.out i
    go_wp2_with fail
    all_goals go_ret
    all_goals (
      have hs := setBlock HB4.out 0 (.bool false)
      refine ⟨by simp, (H4.out.mono (G := fun k => k = bb) (fun _ _ x => x.elim)).setCell (p := ⟨bb, 0, none⟩) (.inl rfl) _, ?_⟩
      simpa using hs)
  · simp only [if_true] at HG
    go_enter Tryd.func9, Tryd.ntmps9
    go_wp2_with fail
    refine HG.out.mono ?_
    rintro e w4 ⟨rfl, hw4⟩
    have H4 := Lib.hid (HZ.out.trans hw4)
    have HB4 := Lib.hid (hw4.heap HBZ.out (fun h => h))
    clear hw4 x0 x1 x2 y0 y1 y2 o0 HG HBZ HOZ HZ
    have d0 := cellRow HB4.out 0 (.bool false) rfl
    have f0 := fun i => frozenRow HB4.out i
    go_wp2_with fail
    all_goals go_ret
    all_goals (
      have hs := setBlock HB4.out 0 (.bool false)
      refine ⟨by simp, (H4.out.mono (G := fun k => k = bb) (fun _ _ x => x.elim)).setCell (p := ⟨bb, 0, none⟩) (.inl rfl) _, ?_⟩
      simpa using hs)
set_option maxRecDepth 100000 in
set_option maxHeartbeats 2000000 in
theorem order_law (ops : List By) (a b c : Tm) (pl : List Int) (ov va vb vc pv : Value) (w : World) (hO : StR (fun k => k < w.heap.size) w ov ops) (ha : TmR (fun k => k < w.heap.size) w a va) (hb : TmR (fun k => k < w.heap.size) w b vb) (hc : TmR (fun k => k < w.heap.size) w c vc)
    (hp : SlR (fun k => k < w.heap.size) w 1 pv pl.length (pl.map (Value.int .i64))) (htab : AscT w) (hpow : Lib.TabIs Tryd.prog w "internal/strconv.uint64pow10" .u64 Lib.pow10Tab) :
    Calls Tryd.prog 3 #[ov, va, vb, vc, pv] w fun e w' => e = .returned (.bool true) ∧ Ext w w' := by
  have HAW := Lib.hid (fun W (hW : Ext w W) => awake_x W (asc_ext htab hW) (pow_upd hpow hW (fun _ _ h => h)))
  have HLO := Lib.hid (fun W (hW : Ext w W) => long_x ops ov _ W (SlR.kept hO hW (fun _ _ h => h)))
  have HLA1 := Lib.hid (fun W (hW : Ext w W) => large_x a va _ W (ha.ext hW))
  have HLB1 := Lib.hid (fun W (hW : Ext w W) => large_x b vb _ W (hb.ext hW))
  have HLC1 := Lib.hid (fun W (hW : Ext w W) => large_x c vc _ W (hc.ext hW))
  have HPR := Lib.hid (fun W (hW : Ext w W) => rprec_x ops ov _ W (SlR.kept hO hW (fun _ _ h => h)))
  have HFA1 := Lib.hid (fun W (hW : Ext w W) => rformed_x a va _ W (ha.ext hW))
  have HFB1 := Lib.hid (fun W (hW : Ext w W) => rformed_x b vb _ W (hb.ext hW))
  have HFC1 := Lib.hid (fun W (hW : Ext w W) => rformed_x c vc _ W (hc.ext hW))
  have HASC := Lib.hid (fun W (hW : Ext w W) => asc_ext htab hW)
  have HPOW := Lib.hid (fun W (hW : Ext w W) => pow_upd hpow hW (fun _ _ h => h))
  have HKN := Lib.hid (fun (hl : ops.length ≤ 120) (hz : a.size ≤ 30) W (hW : Ext w W) => rknows_x ops a ov va _ _ W (SlR.kept hO hW (fun _ _ h => h)) (ha.ext hW) (by omega) (by omega))
  have HTA := Lib.hid (fun W (hW : Ext w W) => (ha.ext hW).weaken (fun k hk => Nat.lt_of_lt_of_le hk hW.size))
  have HTB := Lib.hid (fun W (hW : Ext w W) => (hb.ext hW).weaken (fun k hk => Nat.lt_of_lt_of_le hk hW.size))
  have HTC := Lib.hid (fun W (hW : Ext w W) => (hc.ext hW).weaken (fun k hk => Nat.lt_of_lt_of_le hk hW.size))
  have HOS := Lib.hid (fun W (hW : Ext w W) => SlR.weaken (SlR.kept hO hW (fun _ _ h => h)) (fun k hk => Nat.lt_of_lt_of_le hk hW.size))
  have HATX := Lib.hid (fun (hz : a.size ≤ 30) (hl : pl.length ≤ 12) W (hW : Ext w W) => At_x a pl va pv _ _ W (ha.ext hW) (fun k hk => Nat.lt_of_lt_of_le hk hW.size) (SlR.kept hp hW (fun _ _ h => h)) (asc_ext htab hW) (by omega) (by omega))
  obtain ⟨oa, oc, rfl⟩ := SlR.shape hO
  obtain ⟨pa, pc, rfl⟩ := SlR.shape hp
  obtain ⟨aa, ac, rfl, _⟩ := ha
  obtain ⟨ba, bc, rfl, _⟩ := hb
  obtain ⟨ca, cc, rfl, _⟩ := hc
  dsimp only [tV] at HLA1 HLB1 HLC1 HFA1 HFB1 HFC1 HKN HTA HTB HTC HATX ⊢
  obtain ⟨LA1, hLA⟩ : ∃ x, largeB a = x := ⟨_, rfl⟩
  obtain ⟨LB1, hLB⟩ : ∃ x, largeB b = x := ⟨_, rfl⟩
  obtain ⟨LC1, hLC⟩ : ∃ x, largeB c = x := ⟨_, rfl⟩
  obtain ⟨PR1, hPR⟩ : ∃ x, precP nmB ops = x := ⟨_, rfl⟩
  obtain ⟨FA1, hFA⟩ : ∃ x, wf nmB a = x := ⟨_, rfl⟩
  obtain ⟨FB1, hFB⟩ : ∃ x, wf nmB b = x := ⟨_, rfl⟩
  obtain ⟨FC1, hFC⟩ : ∃ x, wf nmB c = x := ⟨_, rfl⟩
  rw [hLA] at HLA1
  rw [hLB] at HLB1
  rw [hLC] at HLC1
  rw [hPR] at HPR
  rw [hFA] at HFA1
  rw [hFB] at HFB1
  rw [hFC] at HFC1
  have HPRE := Lib.hid hPR
  have HFA2 := Lib.hid hFA
  have HFB2 := Lib.hid hFB
  have HFC2 := Lib.hid hFC
  have HSA : Hid (LA1 = false → a.size ≤ 30) := Lib.hid (fun h => small_of (hLA.trans h))
  have H0 : Hid (Ext w ((((w.alloc (.cells #[.slice oa ops.length oc] 22)).alloc (.cells #[.string a.name, .string a.sort, .slice aa a.kids.length ac] 25)).alloc (.cells #[.string b.name, .string b.sort, .slice ba b.kids.length bc] 25)).alloc (.cells #[.string c.name, .string c.sort, .slice ca c.kids.length cc] 25))) := Lib.hid (((((Upd.refl (fun _ => False) w).alloc _).alloc _).alloc _).alloc _)
  have HO : Hid (((((w.alloc (.cells #[.slice oa ops.length oc] 22)).alloc (.cells #[.string a.name, .string a.sort, .slice aa a.kids.length ac] 25)).alloc (.cells #[.string b.name, .string b.sort, .slice ba b.kids.length bc] 25)).alloc (.cells #[.string c.name, .string c.sort, .slice ca c.kids.length cc] 25)).heap[w.heap.size]? = some (.cells #[.slice oa ops.length oc] 22 (0, 0))) := Lib.hid (allocOld (allocOld (allocOld (alloc0 w (.cells #[.slice oa ops.length oc] 22)) _) _) _)
  have HA : Hid (((((w.alloc (.cells #[.slice oa ops.length oc] 22)).alloc (.cells #[.string a.name, .string a.sort, .slice aa a.kids.length ac] 25)).alloc (.cells #[.string b.name, .string b.sort, .slice ba b.kids.length bc] 25)).alloc (.cells #[.string c.name, .string c.sort, .slice ca c.kids.length cc] 25)).heap[w.heap.size + 1]? = some (.cells #[.string a.name, .string a.sort, .slice aa a.kids.length ac] 25 (0, 0))) := Lib.hid (allocOld (allocOld (alloc_at (w.alloc (.cells #[.slice oa ops.length oc] 22)) (.cells #[.string a.name, .string a.sort, .slice aa a.kids.length ac] 25) (n := w.heap.size + 1) (by simp)) _) _)
  have HB : Hid (((((w.alloc (.cells #[.slice oa ops.length oc] 22)).alloc (.cells #[.string a.name, .string a.sort, .slice aa a.kids.length ac] 25)).alloc (.cells #[.string b.name, .string b.sort, .slice ba b.kids.length bc] 25)).alloc (.cells #[.string c.name, .string c.sort, .slice ca c.kids.length cc] 25)).heap[w.heap.size + 2]? = some (.cells #[.string b.name, .string b.sort, .slice ba b.kids.length bc] 25 (0, 0))) := Lib.hid (allocOld (alloc_at ((w.alloc (.cells #[.slice oa ops.length oc] 22)).alloc (.cells #[.string a.name, .string a.sort, .slice aa a.kids.length ac] 25)) (.cells #[.string b.name, .string b.sort, .slice ba b.kids.length bc] 25) (n := w.heap.size + 2) (by simp)) _)
  have HC : Hid (((((w.alloc (.cells #[.slice oa ops.length oc] 22)).alloc (.cells #[.string a.name, .string a.sort, .slice aa a.kids.length ac] 25)).alloc (.cells #[.string b.name, .string b.sort, .slice ba b.kids.length bc] 25)).alloc (.cells #[.string c.name, .string c.sort, .slice ca c.kids.length cc] 25)).heap[w.heap.size + 3]? = some (.cells #[.string c.name, .string c.sort, .slice ca c.kids.length cc] 25 (0, 0))) := Lib.hid (alloc_at (((w.alloc (.cells #[.slice oa ops.length oc] 22)).alloc (.cells #[.string a.name, .string a.sort, .slice aa a.kids.length ac] 25)).alloc (.cells #[.string b.name, .string b.sort, .slice ba b.kids.length bc] 25)) (.cells #[.string c.name, .string c.sort, .slice ca c.kids.length cc] 25) (n := w.heap.size + 3) (by simp))
  clear hO hp htab hpow hLA hLB hLC hPR hFA hFB hFC
  have o0 := cellRow HO.out 0 (.slice oa ops.length oc) rfl
  have p0 := cellRow HA.out 0 (.string a.name) rfl
  have p1 := cellRow HA.out 1 (.string a.sort) rfl
  have p2 := cellRow HA.out 2 (.slice aa a.kids.length ac) rfl
  have q0 := cellRow HB.out 0 (.string b.name) rfl
  have q1 := cellRow HB.out 1 (.string b.sort) rfl
  have q2 := cellRow HB.out 2 (.slice ba b.kids.length bc) rfl
  have r0 := cellRow HC.out 0 (.string c.name) rfl
  have r1 := cellRow HC.out 1 (.string c.sort) rfl
  have r2 := cellRow HC.out 2 (.slice ca c.kids.length cc) rfl
  go_enter Tryd.func3, Tryd.ntmps3
  go_wp2_with fail
  refine (HAW.out _ H0.out).mono ?_
  rintro e w4 ⟨rfl, hw4⟩
  have H4 := Lib.hid (H0.out.trans hw4)
  have HO_4 := Lib.hid (hw4.heap HO.out (fun h => h))
  have HA_4 := Lib.hid (hw4.heap HA.out (fun h => h))
  have HB_4 := Lib.hid (hw4.heap HB.out (fun h => h))
  have HC_4 := Lib.hid (hw4.heap HC.out (fun h => h))
  clear hw4 o0 p0 p1 p2 q0 q1 q2 r0 r1 r2
  have o0 := cellRow HO_4.out 0 (.slice oa ops.length oc) rfl
  have p0 := cellRow HA_4.out 0 (.string a.name) rfl
  have p1 := cellRow HA_4.out 1 (.string a.sort) rfl
  have p2 := cellRow HA_4.out 2 (.slice aa a.kids.length ac) rfl
  have q0 := cellRow HB_4.out 0 (.string b.name) rfl
  have q1 := cellRow HB_4.out 1 (.string b.sort) rfl
  have q2 := cellRow HB_4.out 2 (.slice ba b.kids.length bc) rfl
  have r0 := cellRow HC_4.out 0 (.string c.name) rfl
  have r1 := cellRow HC_4.out 1 (.string c.sort) rfl
  have r2 := cellRow HC_4.out 2 (.slice ca c.kids.length cc) rfl
  clear HAW
  go_wp2_with fail
  refine (HLO.out _ H4.out).mono ?_
  rintro e w5 ⟨⟨lb, rfl, hlb⟩, hw5⟩
  have H5 := Lib.hid (H4.out.trans hw5)
  have HO_5 := Lib.hid (hw5.heap HO_4.out (fun h => h))
  have HA_5 := Lib.hid (hw5.heap HA_4.out (fun h => h))
  have HB_5 := Lib.hid (hw5.heap HB_4.out (fun h => h))
  have HC_5 := Lib.hid (hw5.heap HC_4.out (fun h => h))
  clear hw5 o0 p0 p1 p2 q0 q1 q2 r0 r1 r2
  have o0 := cellRow HO_5.out 0 (.slice oa ops.length oc) rfl
  have p0 := cellRow HA_5.out 0 (.string a.name) rfl
  have p1 := cellRow HA_5.out 1 (.string a.sort) rfl
  have p2 := cellRow HA_5.out 2 (.slice aa a.kids.length ac) rfl
  have q0 := cellRow HB_5.out 0 (.string b.name) rfl
  have q1 := cellRow HB_5.out 1 (.string b.sort) rfl
  have q2 := cellRow HB_5.out 2 (.slice ba b.kids.length bc) rfl
  have r0 := cellRow HC_5.out 0 (.string c.name) rfl
  have r1 := cellRow HC_5.out 1 (.string c.sort) rfl
  have r2 := cellRow HC_5.out 2 (.slice ca c.kids.length cc) rfl
  have HL := Lib.hid hlb
  clear HLO hlb
  cases lb
  case true =>
    go_wp2_with fail
    all_goals go_ret
    all_goals exact ⟨rfl, H5.out⟩
  have HLL := Lib.hid (HL.out rfl)
  clear HL
  go_wp2_with fail
  refine (HLA1.out _ H5.out).mono ?_
  rintro e w6 ⟨rfl, hw6⟩
  have H6 := Lib.hid (H5.out.trans hw6)
  have HO_6 := Lib.hid (hw6.heap HO_5.out (fun h => h))
  have HA_6 := Lib.hid (hw6.heap HA_5.out (fun h => h))
  have HB_6 := Lib.hid (hw6.heap HB_5.out (fun h => h))
  have HC_6 := Lib.hid (hw6.heap HC_5.out (fun h => h))
  clear hw6 o0 p0 p1 p2 q0 q1 q2 r0 r1 r2
  have o0 := cellRow HO_6.out 0 (.slice oa ops.length oc) rfl
  have p0 := cellRow HA_6.out 0 (.string a.name) rfl
  have p1 := cellRow HA_6.out 1 (.string a.sort) rfl
  have p2 := cellRow HA_6.out 2 (.slice aa a.kids.length ac) rfl
  have q0 := cellRow HB_6.out 0 (.string b.name) rfl
  have q1 := cellRow HB_6.out 1 (.string b.sort) rfl
  have q2 := cellRow HB_6.out 2 (.slice ba b.kids.length bc) rfl
  have r0 := cellRow HC_6.out 0 (.string c.name) rfl
  have r1 := cellRow HC_6.out 1 (.string c.sort) rfl
  have r2 := cellRow HC_6.out 2 (.slice ca c.kids.length cc) rfl
  cases LA1
  case true =>
    go_wp2_with fail
    all_goals go_ret
    all_goals exact ⟨rfl, H6.out⟩
  go_wp2_with fail
  refine (HLB1.out _ H6.out).mono ?_
  rintro e w7 ⟨rfl, hw7⟩
  have H7 := Lib.hid (H6.out.trans hw7)
  have HO_7 := Lib.hid (hw7.heap HO_6.out (fun h => h))
  have HA_7 := Lib.hid (hw7.heap HA_6.out (fun h => h))
  have HB_7 := Lib.hid (hw7.heap HB_6.out (fun h => h))
  have HC_7 := Lib.hid (hw7.heap HC_6.out (fun h => h))
  clear hw7 o0 p0 p1 p2 q0 q1 q2 r0 r1 r2
  have o0 := cellRow HO_7.out 0 (.slice oa ops.length oc) rfl
  have p0 := cellRow HA_7.out 0 (.string a.name) rfl
  have p1 := cellRow HA_7.out 1 (.string a.sort) rfl
  have p2 := cellRow HA_7.out 2 (.slice aa a.kids.length ac) rfl
  have q0 := cellRow HB_7.out 0 (.string b.name) rfl
  have q1 := cellRow HB_7.out 1 (.string b.sort) rfl
  have q2 := cellRow HB_7.out 2 (.slice ba b.kids.length bc) rfl
  have r0 := cellRow HC_7.out 0 (.string c.name) rfl
  have r1 := cellRow HC_7.out 1 (.string c.sort) rfl
  have r2 := cellRow HC_7.out 2 (.slice ca c.kids.length cc) rfl
  cases LB1
  case true =>
    go_wp2_with fail
    all_goals go_ret
    all_goals exact ⟨rfl, H7.out⟩
  go_wp2_with fail
  refine (HLC1.out _ H7.out).mono ?_
  rintro e w8 ⟨rfl, hw8⟩
  have H8 := Lib.hid (H7.out.trans hw8)
  have HO_8 := Lib.hid (hw8.heap HO_7.out (fun h => h))
  have HA_8 := Lib.hid (hw8.heap HA_7.out (fun h => h))
  have HB_8 := Lib.hid (hw8.heap HB_7.out (fun h => h))
  have HC_8 := Lib.hid (hw8.heap HC_7.out (fun h => h))
  clear hw8 o0 p0 p1 p2 q0 q1 q2 r0 r1 r2
  have o0 := cellRow HO_8.out 0 (.slice oa ops.length oc) rfl
  have p0 := cellRow HA_8.out 0 (.string a.name) rfl
  have p1 := cellRow HA_8.out 1 (.string a.sort) rfl
  have p2 := cellRow HA_8.out 2 (.slice aa a.kids.length ac) rfl
  have q0 := cellRow HB_8.out 0 (.string b.name) rfl
  have q1 := cellRow HB_8.out 1 (.string b.sort) rfl
  have q2 := cellRow HB_8.out 2 (.slice ba b.kids.length bc) rfl
  have r0 := cellRow HC_8.out 0 (.string c.name) rfl
  have r1 := cellRow HC_8.out 1 (.string c.sort) rfl
  have r2 := cellRow HC_8.out 2 (.slice ca c.kids.length cc) rfl
  cases LC1
  case true =>
    go_wp2_with fail
    all_goals go_ret
    all_goals exact ⟨rfl, H8.out⟩
  by_cases hpl : 12 < pl.length
  · have z1 : (12 : Int) < (pl.length : Int) := by omega
    have z1' : decide ((12 : Int) < (pl.length : Int)) = true := decide_eq_true z1
    go_wp2_with fail
    all_goals go_ret
    all_goals exact ⟨rfl, H8.out⟩
  have z1 : ¬ (12 : Int) < (pl.length : Int) := by omega
  have z1' : decide ((12 : Int) < (pl.length : Int)) = false := decide_eq_false z1
  have HPLL := Lib.hid hpl
  clear hpl
  have HATX2 := Lib.hid (HATX.out (HSA.out (by simp)) (by have := HPLL.out; omega))
  have HKN1 := Lib.hid (HKN.out HLL.out (HSA.out (by simp)))
  clear HATX HKN
  go_wp2_with fail
  refine (HPR.out _ H8.out).mono ?_
  rintro e w9 ⟨rfl, hw9⟩
  have H9 := Lib.hid (H8.out.trans hw9)
  have HO_9 := Lib.hid (hw9.heap HO_8.out (fun h => h))
  have HA_9 := Lib.hid (hw9.heap HA_8.out (fun h => h))
  have HB_9 := Lib.hid (hw9.heap HB_8.out (fun h => h))
  have HC_9 := Lib.hid (hw9.heap HC_8.out (fun h => h))
  clear hw9 o0 p0 p1 p2 q0 q1 q2 r0 r1 r2
  have o0 := cellRow HO_9.out 0 (.slice oa ops.length oc) rfl
  have p0 := cellRow HA_9.out 0 (.string a.name) rfl
  have p1 := cellRow HA_9.out 1 (.string a.sort) rfl
  have p2 := cellRow HA_9.out 2 (.slice aa a.kids.length ac) rfl
  have q0 := cellRow HB_9.out 0 (.string b.name) rfl
  have q1 := cellRow HB_9.out 1 (.string b.sort) rfl
  have q2 := cellRow HB_9.out 2 (.slice ba b.kids.length bc) rfl
  have r0 := cellRow HC_9.out 0 (.string c.name) rfl
  have r1 := cellRow HC_9.out 1 (.string c.sort) rfl
  have r2 := cellRow HC_9.out 2 (.slice ca c.kids.length cc) rfl
  cases PR1
  case false =>
    go_wp2_with fail
    all_goals go_ret
    all_goals exact ⟨rfl, H9.out⟩
  clear HPR
  go_wp2_with fail
  refine (HFA1.out _ H9.out).mono ?_
  rintro e w10 ⟨rfl, hw10⟩
  have H10 := Lib.hid (H9.out.trans hw10)
  have HO_10 := Lib.hid (hw10.heap HO_9.out (fun h => h))
  have HA_10 := Lib.hid (hw10.heap HA_9.out (fun h => h))
  have HB_10 := Lib.hid (hw10.heap HB_9.out (fun h => h))
  have HC_10 := Lib.hid (hw10.heap HC_9.out (fun h => h))
  clear hw10 o0 p0 p1 p2 q0 q1 q2 r0 r1 r2
  have o0 := cellRow HO_10.out 0 (.slice oa ops.length oc) rfl
  have p0 := cellRow HA_10.out 0 (.string a.name) rfl
  have p1 := cellRow HA_10.out 1 (.string a.sort) rfl
  have p2 := cellRow HA_10.out 2 (.slice aa a.kids.length ac) rfl
  have q0 := cellRow HB_10.out 0 (.string b.name) rfl
  have q1 := cellRow HB_10.out 1 (.string b.sort) rfl
  have q2 := cellRow HB_10.out 2 (.slice ba b.kids.length bc) rfl
  have r0 := cellRow HC_10.out 0 (.string c.name) rfl
  have r1 := cellRow HC_10.out 1 (.string c.sort) rfl
  have r2 := cellRow HC_10.out 2 (.slice ca c.kids.length cc) rfl
  cases FA1
  case false =>
    go_wp2_with fail
    all_goals go_ret
    all_goals exact ⟨rfl, H10.out⟩
  clear HFA1
  go_wp2_with fail
  refine (HFB1.out _ H10.out).mono ?_
  rintro e w11 ⟨rfl, hw11⟩
  have H11 := Lib.hid (H10.out.trans hw11)
  have HO_11 := Lib.hid (hw11.heap HO_10.out (fun h => h))
  have HA_11 := Lib.hid (hw11.heap HA_10.out (fun h => h))
  have HB_11 := Lib.hid (hw11.heap HB_10.out (fun h => h))
  have HC_11 := Lib.hid (hw11.heap HC_10.out (fun h => h))
  clear hw11 o0 p0 p1 p2 q0 q1 q2 r0 r1 r2
  have o0 := cellRow HO_11.out 0 (.slice oa ops.length oc) rfl
  have p0 := cellRow HA_11.out 0 (.string a.name) rfl
  have p1 := cellRow HA_11.out 1 (.string a.sort) rfl
  have p2 := cellRow HA_11.out 2 (.slice aa a.kids.length ac) rfl
  have q0 := cellRow HB_11.out 0 (.string b.name) rfl
  have q1 := cellRow HB_11.out 1 (.string b.sort) rfl
  have q2 := cellRow HB_11.out 2 (.slice ba b.kids.length bc) rfl
  have r0 := cellRow HC_11.out 0 (.string c.name) rfl
  have r1 := cellRow HC_11.out 1 (.string c.sort) rfl
  have r2 := cellRow HC_11.out 2 (.slice ca c.kids.length cc) rfl
  cases FB1
  case false =>
    go_wp2_with fail
    all_goals go_ret
    all_goals exact ⟨rfl, H11.out⟩
  clear HFB1
  go_wp2_with fail
  refine (HFC1.out _ H11.out).mono ?_
  rintro e w12 ⟨rfl, hw12⟩
  have H12 := Lib.hid (H11.out.trans hw12)
  have HO_12 := Lib.hid (hw12.heap HO_11.out (fun h => h))
  have HA_12 := Lib.hid (hw12.heap HA_11.out (fun h => h))
  have HB_12 := Lib.hid (hw12.heap HB_11.out (fun h => h))
  have HC_12 := Lib.hid (hw12.heap HC_11.out (fun h => h))
  clear hw12 o0 p0 p1 p2 q0 q1 q2 r0 r1 r2
  have o0 := cellRow HO_12.out 0 (.slice oa ops.length oc) rfl
  have p0 := cellRow HA_12.out 0 (.string a.name) rfl
  have p1 := cellRow HA_12.out 1 (.string a.sort) rfl
  have p2 := cellRow HA_12.out 2 (.slice aa a.kids.length ac) rfl
  have q0 := cellRow HB_12.out 0 (.string b.name) rfl
  have q1 := cellRow HB_12.out 1 (.string b.sort) rfl
  have q2 := cellRow HB_12.out 2 (.slice ba b.kids.length bc) rfl
  have r0 := cellRow HC_12.out 0 (.string c.name) rfl
  have r1 := cellRow HC_12.out 1 (.string c.sort) rfl
  have r2 := cellRow HC_12.out 2 (.slice ca c.kids.length cc) rfl
  cases FC1
  case false =>
    go_wp2_with fail
    all_goals go_ret
    all_goals exact ⟨rfl, H12.out⟩
  clear HFC1
  obtain ⟨bb, hbb⟩ : ∃ bb, w12.heap.size = bb := ⟨_, rfl⟩
  have HBB : Hid (w.heap.size + 4 ≤ bb) := Lib.hid (by
    have h1 := (Array.getElem?_eq_some_iff.1 HC_12.out).1
    omega)
  have HD0 : Hid ((w12.alloc (.cells #[.bool false] 4)).heap[bb]? = some (.cells #[.bool false] 4 (0, 0))) := Lib.hid (by rw [← hbb]; exact alloc0 _ _)
  have hZ := (Upd.refl (fun _ => False) w12).alloc (.cells #[.bool false] 4)
  have H13 := Lib.hid (H12.out.trans hZ)
  have HO_13 := Lib.hid (hZ.heap HO_12.out (fun h => h))
  have HA_13 := Lib.hid (hZ.heap HA_12.out (fun h => h))
  have HB_13 := Lib.hid (hZ.heap HB_12.out (fun h => h))
  have HC_13 := Lib.hid (hZ.heap HC_12.out (fun h => h))
  clear hZ o0 p0 p1 p2 q0 q1 q2 r0 r1 r2
  have o0 := cellRow HO_13.out 0 (.slice oa ops.length oc) rfl
  have p0 := cellRow HA_13.out 0 (.string a.name) rfl
  have p1 := cellRow HA_13.out 1 (.string a.sort) rfl
  have p2 := cellRow HA_13.out 2 (.slice aa a.kids.length ac) rfl
  have q0 := cellRow HB_13.out 0 (.string b.name) rfl
  have q1 := cellRow HB_13.out 1 (.string b.sort) rfl
  have q2 := cellRow HB_13.out 2 (.slice ba b.kids.length bc) rfl
  have r0 := cellRow HC_13.out 0 (.string c.name) rfl
  have r1 := cellRow HC_13.out 1 (.string c.sort) rfl
  have r2 := cellRow HC_13.out 2 (.slice ca c.kids.length cc) rfl
  have d0 := cellRow HD0.out 0 (.bool false) rfl
  have HCLO : Hid (∀ (x y : Tm) (xa ya : Option Addr) (xc yc : Nat) (W : World), Ext w W → W.heap[w.heap.size]? = some (.cells #[.slice oa ops.length oc] 22 (0, 0)) → W.heap[bb]? = some (.cells #[.bool false] 4 (0, 0)) → TmR (fun k => k < W.heap.size) W x (.agg #[.string x.name, .string x.sort, .slice xa x.kids.length xc]) → TmR (fun k => k < W.heap.size) W y (.agg #[.string y.name, .string y.sort, .slice ya y.kids.length yc]) → wf nmB x = true → wf nmB y = true →
      Calls Tryd.prog 9 #[.agg #[.string x.name, .string x.sort, .slice xa x.kids.length xc], .agg #[.string y.name, .string y.sort, .slice ya y.kids.length yc], .pointer (some ⟨w.heap.size, 0, none⟩), .pointer (some ⟨bb, 0, none⟩)] W fun e w' => e = .returned (.bool (abF ops x y)) ∧ Upd (fun k => k = bb) W w' ∧ w'.heap[bb]? = some (.cells #[.bool false] 4 (0, 0))) := Lib.hid (fun x y xa ya xc yc W hW ho hb hx hy hwx hwy =>
    clo_x ops x y xa ya xc yc oa oc w.heap.size bb W ho hb (by have := HBB.out; omega) (HOS.out W hW) hx hy (HASC.out W hW) (HPOW.out W hW) HPRE.out hwx hwy (by have := HLL.out; omega))
  go_upto_region 7 with fail
  generalize hw13 : w12.alloc (.cells #[.bool false] 4) = w13 at *
  try rw [hbb]
  clear hw13 hbb
  go_cut [94] (fun s ww => s = .bool false ∧ Hid (Ext w ww) ∧ Hid (ww.heap[w.heap.size]? = some (.cells #[.slice oa ops.length oc] 22 (0, 0))) ∧ Hid (ww.heap[w.heap.size + 1]? = some (.cells #[.string a.name, .string a.sort, .slice aa a.kids.length ac] 25 (0, 0))) ∧ Hid (ww.heap[w.heap.size + 2]? = some (.cells #[.string b.name, .string b.sort, .slice ba b.kids.length bc] 25 (0, 0))) ∧ Hid (ww.heap[w.heap.size + 3]? = some (.cells #[.string c.name, .string c.sort, .slice ca c.kids.length cc] 25 (0, 0))) ∧ Hid (ww.heap[bb]? = some (.cells #[.bool false] 4 (0, 0))))
  case first =>
    go_wp2_with fail
    have HK14 := HCLO.out a a aa aa ac ac _ H13.out HO_13.out HD0.out (HTA.out _ H13.out) (HTA.out _ H13.out) HFA2.out HFA2.out
    rw [abF_irr] at HK14
    have HK14 := Lib.hid HK14
    refine (HK14.out).mono ?_
    rintro e w14 ⟨rfl, hw14, hd14⟩
    have H14 : Hid (Ext w w14) := Lib.hid (H13.out.trans' hw14 (fun j hj e => by have := HBB.out; omega))
    have HD_14 := Lib.hid hd14
    have HO_14 := Lib.hid (hw14.heap HO_13.out (fun e => by first | (have := HBB.out; omega) | (have := HBW.out; omega)))
    have HA_14 := Lib.hid (hw14.heap HA_13.out (fun e => by first | (have := HBB.out; omega) | (have := HBW.out; omega)))
    have HB_14 := Lib.hid (hw14.heap HB_13.out (fun e => by first | (have := HBB.out; omega) | (have := HBW.out; omega)))
    have HC_14 := Lib.hid (hw14.heap HC_13.out (fun e => by first | (have := HBB.out; omega) | (have := HBW.out; omega)))
    clear hw14 hd14 o0 p0 p1 p2 q0 q1 q2 r0 r1 r2 d0
    have o0 := cellRow HO_14.out 0 (.slice oa ops.length oc) rfl
    have p0 := cellRow HA_14.out 0 (.string a.name) rfl
    have p1 := cellRow HA_14.out 1 (.string a.sort) rfl
    have p2 := cellRow HA_14.out 2 (.slice aa a.kids.length ac) rfl
    have q0 := cellRow HB_14.out 0 (.string b.name) rfl
    have q1 := cellRow HB_14.out 1 (.string b.sort) rfl
    have q2 := cellRow HB_14.out 2 (.slice ba b.kids.length bc) rfl
    have r0 := cellRow HC_14.out 0 (.string c.name) rfl
    have r1 := cellRow HC_14.out 1 (.string c.sort) rfl
    have r2 := cellRow HC_14.out 2 (.slice ca c.kids.length cc) rfl
    have d0 := cellRow HD_14.out 0 (.bool false) rfl
    clear HK14
    obtain ⟨X, hX⟩ : ∃ X, abF ops a b = X := ⟨_, rfl⟩
    obtain ⟨Y, hY⟩ : ∃ Y, abF ops b c = Y := ⟨_, rfl⟩
    have HX := Lib.hid hX
    have HY := Lib.hid hY
    clear hX hY
    cases X
    · go_wp2_with fail
      have HK15 := HCLO.out a b aa ba ac bc _ H14.out HO_14.out HD_14.out (HTA.out _ H14.out) (HTB.out _ H14.out) HFA2.out HFB2.out
      rw [HX.out] at HK15
      have HK15 := Lib.hid HK15
      refine (HK15.out).mono ?_
      rintro e w15 ⟨rfl, hw15, hd15⟩
      have H15 : Hid (Ext w w15) := Lib.hid (H14.out.trans' hw15 (fun j hj e => by have := HBB.out; omega))
      have HD_15 := Lib.hid hd15
      have HO_15 := Lib.hid (hw15.heap HO_14.out (fun e => by first | (have := HBB.out; omega) | (have := HBW.out; omega)))
      have HA_15 := Lib.hid (hw15.heap HA_14.out (fun e => by first | (have := HBB.out; omega) | (have := HBW.out; omega)))
      have HB_15 := Lib.hid (hw15.heap HB_14.out (fun e => by first | (have := HBB.out; omega) | (have := HBW.out; omega)))
      have HC_15 := Lib.hid (hw15.heap HC_14.out (fun e => by first | (have := HBB.out; omega) | (have := HBW.out; omega)))
      clear hw15 hd15 o0 p0 p1 p2 q0 q1 q2 r0 r1 r2 d0
      have o0 := cellRow HO_15.out 0 (.slice oa ops.length oc) rfl
      have p0 := cellRow HA_15.out 0 (.string a.name) rfl
      have p1 := cellRow HA_15.out 1 (.string a.sort) rfl
      have p2 := cellRow HA_15.out 2 (.slice aa a.kids.length ac) rfl
      have q0 := cellRow HB_15.out 0 (.string b.name) rfl
      have q1 := cellRow HB_15.out 1 (.string b.sort) rfl
      have q2 := cellRow HB_15.out 2 (.slice ba b.kids.length bc) rfl
      have r0 := cellRow HC_15.out 0 (.string c.name) rfl
      have r1 := cellRow HC_15.out 1 (.string c.sort) rfl
      have r2 := cellRow HC_15.out 2 (.slice ca c.kids.length cc) rfl
      have d0 := cellRow HD_15.out 0 (.bool false) rfl
      clear HK15
      go_wp2_with fail
      have HK17 := HCLO.out a b aa ba ac bc _ H15.out HO_15.out HD_15.out (HTA.out _ H15.out) (HTB.out _ H15.out) HFA2.out HFB2.out
      rw [HX.out] at HK17
      have HK17 := Lib.hid HK17
      refine (HK17.out).mono ?_
      rintro e w17 ⟨rfl, hw17, hd17⟩
      have H17 : Hid (Ext w w17) := Lib.hid (H15.out.trans' hw17 (fun j hj e => by have := HBB.out; omega))
      have HD_17 := Lib.hid hd17
      have HO_17 := Lib.hid (hw17.heap HO_15.out (fun e => by first | (have := HBB.out; omega) | (have := HBW.out; omega)))
      have HA_17 := Lib.hid (hw17.heap HA_15.out (fun e => by first | (have := HBB.out; omega) | (have := HBW.out; omega)))
      have HB_17 := Lib.hid (hw17.heap HB_15.out (fun e => by first | (have := HBB.out; omega) | (have := HBW.out; omega)))
      have HC_17 := Lib.hid (hw17.heap HC_15.out (fun e => by first | (have := HBB.out; omega) | (have := HBW.out; omega)))
      clear hw17 hd17 o0 p0 p1 p2 q0 q1 q2 r0 r1 r2 d0
      have o0 := cellRow HO_17.out 0 (.slice oa ops.length oc) rfl
      have p0 := cellRow HA_17.out 0 (.string a.name) rfl
      have p1 := cellRow HA_17.out 1 (.string a.sort) rfl
      have p2 := cellRow HA_17.out 2 (.slice aa a.kids.length ac) rfl
      have q0 := cellRow HB_17.out 0 (.string b.name) rfl
      have q1 := cellRow HB_17.out 1 (.string b.sort) rfl
      have q2 := cellRow HB_17.out 2 (.slice ba b.kids.length bc) rfl
      have r0 := cellRow HC_17.out 0 (.string c.name) rfl
      have r1 := cellRow HC_17.out 1 (.string c.sort) rfl
      have r2 := cellRow HC_17.out 2 (.slice ca c.kids.length cc) rfl
      have d0 := cellRow HD_17.out 0 (.bool false) rfl
      clear HK17
      go_wp2_with fail
      go_meet
      case rel => exact ⟨rfl, H17, HO_17, HA_17, HB_17, HC_17, HD_17⟩
    cases Y
    · go_wp2_with fail
      have HK15 := HCLO.out a b aa ba ac bc _ H14.out HO_14.out HD_14.out (HTA.out _ H14.out) (HTB.out _ H14.out) HFA2.out HFB2.out
      rw [HX.out] at HK15
      have HK15 := Lib.hid HK15
      refine (HK15.out).mono ?_
      rintro e w15 ⟨rfl, hw15, hd15⟩
      have H15 : Hid (Ext w w15) := Lib.hid (H14.out.trans' hw15 (fun j hj e => by have := HBB.out; omega))
      have HD_15 := Lib.hid hd15
      have HO_15 := Lib.hid (hw15.heap HO_14.out (fun e => by first | (have := HBB.out; omega) | (have := HBW.out; omega)))
      have HA_15 := Lib.hid (hw15.heap HA_14.out (fun e => by first | (have := HBB.out; omega) | (have := HBW.out; omega)))
      have HB_15 := Lib.hid (hw15.heap HB_14.out (fun e => by first | (have := HBB.out; omega) | (have := HBW.out; omega)))
      have HC_15 := Lib.hid (hw15.heap HC_14.out (fun e => by first | (have := HBB.out; omega) | (have := HBW.out; omega)))
      clear hw15 hd15 o0 p0 p1 p2 q0 q1 q2 r0 r1 r2 d0
      have o0 := cellRow HO_15.out 0 (.slice oa ops.length oc) rfl
      have p0 := cellRow HA_15.out 0 (.string a.name) rfl
      have p1 := cellRow HA_15.out 1 (.string a.sort) rfl
      have p2 := cellRow HA_15.out 2 (.slice aa a.kids.length ac) rfl
      have q0 := cellRow HB_15.out 0 (.string b.name) rfl
      have q1 := cellRow HB_15.out 1 (.string b.sort) rfl
      have q2 := cellRow HB_15.out 2 (.slice ba b.kids.length bc) rfl
      have r0 := cellRow HC_15.out 0 (.string c.name) rfl
      have r1 := cellRow HC_15.out 1 (.string c.sort) rfl
      have r2 := cellRow HC_15.out 2 (.slice ca c.kids.length cc) rfl
      have d0 := cellRow HD_15.out 0 (.bool false) rfl
      clear HK15
      go_wp2_with fail
      have HK16 := HCLO.out b a ba aa bc ac _ H15.out HO_15.out HD_15.out (HTB.out _ H15.out) (HTA.out _ H15.out) HFB2.out HFA2.out
      rw [(abF_asym HX.out)] at HK16
      have HK16 := Lib.hid HK16
      refine (HK16.out).mono ?_
      rintro e w16 ⟨rfl, hw16, hd16⟩
      have H16 : Hid (Ext w w16) := Lib.hid (H15.out.trans' hw16 (fun j hj e => by have := HBB.out; omega))
      have HD_16 := Lib.hid hd16
      have HO_16 := Lib.hid (hw16.heap HO_15.out (fun e => by first | (have := HBB.out; omega) | (have := HBW.out; omega)))
      have HA_16 := Lib.hid (hw16.heap HA_15.out (fun e => by first | (have := HBB.out; omega) | (have := HBW.out; omega)))
      have HB_16 := Lib.hid (hw16.heap HB_15.out (fun e => by first | (have := HBB.out; omega) | (have := HBW.out; omega)))
      have HC_16 := Lib.hid (hw16.heap HC_15.out (fun e => by first | (have := HBB.out; omega) | (have := HBW.out; omega)))
      clear hw16 hd16 o0 p0 p1 p2 q0 q1 q2 r0 r1 r2 d0
      have o0 := cellRow HO_16.out 0 (.slice oa ops.length oc) rfl
      have p0 := cellRow HA_16.out 0 (.string a.name) rfl
      have p1 := cellRow HA_16.out 1 (.string a.sort) rfl
      have p2 := cellRow HA_16.out 2 (.slice aa a.kids.length ac) rfl
      have q0 := cellRow HB_16.out 0 (.string b.name) rfl
      have q1 := cellRow HB_16.out 1 (.string b.sort) rfl
      have q2 := cellRow HB_16.out 2 (.slice ba b.kids.length bc) rfl
      have r0 := cellRow HC_16.out 0 (.string c.name) rfl
      have r1 := cellRow HC_16.out 1 (.string c.sort) rfl
      have r2 := cellRow HC_16.out 2 (.slice ca c.kids.length cc) rfl
      have d0 := cellRow HD_16.out 0 (.bool false) rfl
      clear HK16
      go_wp2_with fail
      have HK17 := HCLO.out a b aa ba ac bc _ H16.out HO_16.out HD_16.out (HTA.out _ H16.out) (HTB.out _ H16.out) HFA2.out HFB2.out
      rw [HX.out] at HK17
      have HK17 := Lib.hid HK17
      refine (HK17.out).mono ?_
      rintro e w17 ⟨rfl, hw17, hd17⟩
      have H17 : Hid (Ext w w17) := Lib.hid (H16.out.trans' hw17 (fun j hj e => by have := HBB.out; omega))
      have HD_17 := Lib.hid hd17
      have HO_17 := Lib.hid (hw17.heap HO_16.out (fun e => by first | (have := HBB.out; omega) | (have := HBW.out; omega)))
      have HA_17 := Lib.hid (hw17.heap HA_16.out (fun e => by first | (have := HBB.out; omega) | (have := HBW.out; omega)))
      have HB_17 := Lib.hid (hw17.heap HB_16.out (fun e => by first | (have := HBB.out; omega) | (have := HBW.out; omega)))
      have HC_17 := Lib.hid (hw17.heap HC_16.out (fun e => by first | (have := HBB.out; omega) | (have := HBW.out; omega)))
      clear hw17 hd17 o0 p0 p1 p2 q0 q1 q2 r0 r1 r2 d0
      have o0 := cellRow HO_17.out 0 (.slice oa ops.length oc) rfl
      have p0 := cellRow HA_17.out 0 (.string a.name) rfl
      have p1 := cellRow HA_17.out 1 (.string a.sort) rfl
      have p2 := cellRow HA_17.out 2 (.slice aa a.kids.length ac) rfl
      have q0 := cellRow HB_17.out 0 (.string b.name) rfl
      have q1 := cellRow HB_17.out 1 (.string b.sort) rfl
      have q2 := cellRow HB_17.out 2 (.slice ba b.kids.length bc) rfl
      have r0 := cellRow HC_17.out 0 (.string c.name) rfl
      have r1 := cellRow HC_17.out 1 (.string c.sort) rfl
      have r2 := cellRow HC_17.out 2 (.slice ca c.kids.length cc) rfl
      have d0 := cellRow HD_17.out 0 (.bool false) rfl
      clear HK17
      go_wp2_with fail
      have HK18 := HCLO.out b c ba ca bc cc _ H17.out HO_17.out HD_17.out (HTB.out _ H17.out) (HTC.out _ H17.out) HFB2.out HFC2.out
      rw [HY.out] at HK18
      have HK18 := Lib.hid HK18
      refine (HK18.out).mono ?_
      rintro e w18 ⟨rfl, hw18, hd18⟩
      have H18 : Hid (Ext w w18) := Lib.hid (H17.out.trans' hw18 (fun j hj e => by have := HBB.out; omega))
      have HD_18 := Lib.hid hd18
      have HO_18 := Lib.hid (hw18.heap HO_17.out (fun e => by first | (have := HBB.out; omega) | (have := HBW.out; omega)))
      have HA_18 := Lib.hid (hw18.heap HA_17.out (fun e => by first | (have := HBB.out; omega) | (have := HBW.out; omega)))
      have HB_18 := Lib.hid (hw18.heap HB_17.out (fun e => by first | (have := HBB.out; omega) | (have := HBW.out; omega)))
      have HC_18 := Lib.hid (hw18.heap HC_17.out (fun e => by first | (have := HBB.out; omega) | (have := HBW.out; omega)))
      clear hw18 hd18 o0 p0 p1 p2 q0 q1 q2 r0 r1 r2 d0
      have o0 := cellRow HO_18.out 0 (.slice oa ops.length oc) rfl
      have p0 := cellRow HA_18.out 0 (.string a.name) rfl
      have p1 := cellRow HA_18.out 1 (.string a.sort) rfl
      have p2 := cellRow HA_18.out 2 (.slice aa a.kids.length ac) rfl
      have q0 := cellRow HB_18.out 0 (.string b.name) rfl
      have q1 := cellRow HB_18.out 1 (.string b.sort) rfl
      have q2 := cellRow HB_18.out 2 (.slice ba b.kids.length bc) rfl
      have r0 := cellRow HC_18.out 0 (.string c.name) rfl
      have r1 := cellRow HC_18.out 1 (.string c.sort) rfl
      have r2 := cellRow HC_18.out 2 (.slice ca c.kids.length cc) rfl
      have d0 := cellRow HD_18.out 0 (.bool false) rfl
      clear HK18
      go_wp2_with fail
      go_meet
      case rel => exact ⟨rfl, H18, HO_18, HA_18, HB_18, HC_18, HD_18⟩
    · go_wp2_with fail
      have HK15 := HCLO.out a b aa ba ac bc _ H14.out HO_14.out HD_14.out (HTA.out _ H14.out) (HTB.out _ H14.out) HFA2.out HFB2.out
      rw [HX.out] at HK15
      have HK15 := Lib.hid HK15
      refine (HK15.out).mono ?_
      rintro e w15 ⟨rfl, hw15, hd15⟩
      have H15 : Hid (Ext w w15) := Lib.hid (H14.out.trans' hw15 (fun j hj e => by have := HBB.out; omega))
      have HD_15 := Lib.hid hd15
      have HO_15 := Lib.hid (hw15.heap HO_14.out (fun e => by first | (have := HBB.out; omega) | (have := HBW.out; omega)))
      have HA_15 := Lib.hid (hw15.heap HA_14.out (fun e => by first | (have := HBB.out; omega) | (have := HBW.out; omega)))
      have HB_15 := Lib.hid (hw15.heap HB_14.out (fun e => by first | (have := HBB.out; omega) | (have := HBW.out; omega)))
      have HC_15 := Lib.hid (hw15.heap HC_14.out (fun e => by first | (have := HBB.out; omega) | (have := HBW.out; omega)))
      clear hw15 hd15 o0 p0 p1 p2 q0 q1 q2 r0 r1 r2 d0
      have o0 := cellRow HO_15.out 0 (.slice oa ops.length oc) rfl
      have p0 := cellRow HA_15.out 0 (.string a.name) rfl
      have p1 := cellRow HA_15.out 1 (.string a.sort) rfl
      have p2 := cellRow HA_15.out 2 (.slice aa a.kids.length ac) rfl
      have q0 := cellRow HB_15.out 0 (.string b.name) rfl
      have q1 := cellRow HB_15.out 1 (.string b.sort) rfl
      have q2 := cellRow HB_15.out 2 (.slice ba b.kids.length bc) rfl
      have r0 := cellRow HC_15.out 0 (.string c.name) rfl
      have r1 := cellRow HC_15.out 1 (.string c.sort) rfl
      have r2 := cellRow HC_15.out 2 (.slice ca c.kids.length cc) rfl
      have d0 := cellRow HD_15.out 0 (.bool false) rfl
      clear HK15
      go_wp2_with fail
      have HK16 := HCLO.out b a ba aa bc ac _ H15.out HO_15.out HD_15.out (HTB.out _ H15.out) (HTA.out _ H15.out) HFB2.out HFA2.out
      rw [(abF_asym HX.out)] at HK16
      have HK16 := Lib.hid HK16
      refine (HK16.out).mono ?_
      rintro e w16 ⟨rfl, hw16, hd16⟩
      have H16 : Hid (Ext w w16) := Lib.hid (H15.out.trans' hw16 (fun j hj e => by have := HBB.out; omega))
      have HD_16 := Lib.hid hd16
      have HO_16 := Lib.hid (hw16.heap HO_15.out (fun e => by first | (have := HBB.out; omega) | (have := HBW.out; omega)))
      have HA_16 := Lib.hid (hw16.heap HA_15.out (fun e => by first | (have := HBB.out; omega) | (have := HBW.out; omega)))
      have HB_16 := Lib.hid (hw16.heap HB_15.out (fun e => by first | (have := HBB.out; omega) | (have := HBW.out; omega)))
      have HC_16 := Lib.hid (hw16.heap HC_15.out (fun e => by first | (have := HBB.out; omega) | (have := HBW.out; omega)))
      clear hw16 hd16 o0 p0 p1 p2 q0 q1 q2 r0 r1 r2 d0
      have o0 := cellRow HO_16.out 0 (.slice oa ops.length oc) rfl
      have p0 := cellRow HA_16.out 0 (.string a.name) rfl
      have p1 := cellRow HA_16.out 1 (.string a.sort) rfl
      have p2 := cellRow HA_16.out 2 (.slice aa a.kids.length ac) rfl
      have q0 := cellRow HB_16.out 0 (.string b.name) rfl
      have q1 := cellRow HB_16.out 1 (.string b.sort) rfl
      have q2 := cellRow HB_16.out 2 (.slice ba b.kids.length bc) rfl
      have r0 := cellRow HC_16.out 0 (.string c.name) rfl
      have r1 := cellRow HC_16.out 1 (.string c.sort) rfl
      have r2 := cellRow HC_16.out 2 (.slice ca c.kids.length cc) rfl
      have d0 := cellRow HD_16.out 0 (.bool false) rfl
      clear HK16
      go_wp2_with fail
      have HK17 := HCLO.out a b aa ba ac bc _ H16.out HO_16.out HD_16.out (HTA.out _ H16.out) (HTB.out _ H16.out) HFA2.out HFB2.out
      rw [HX.out] at HK17
      have HK17 := Lib.hid HK17
      refine (HK17.out).mono ?_
      rintro e w17 ⟨rfl, hw17, hd17⟩
      have H17 : Hid (Ext w w17) := Lib.hid (H16.out.trans' hw17 (fun j hj e => by have := HBB.out; omega))
      have HD_17 := Lib.hid hd17
      have HO_17 := Lib.hid (hw17.heap HO_16.out (fun e => by first | (have := HBB.out; omega) | (have := HBW.out; omega)))
      have HA_17 := Lib.hid (hw17.heap HA_16.out (fun e => by first | (have := HBB.out; omega) | (have := HBW.out; omega)))
      have HB_17 := Lib.hid (hw17.heap HB_16.out (fun e => by first | (have := HBB.out; omega) | (have := HBW.out; omega)))
      have HC_17 := Lib.hid (hw17.heap HC_16.out (fun e => by first | (have := HBB.out; omega) | (have := HBW.out; omega)))
      clear hw17 hd17 o0 p0 p1 p2 q0 q1 q2 r0 r1 r2 d0
      have o0 := cellRow HO_17.out 0 (.slice oa ops.length oc) rfl
      have p0 := cellRow HA_17.out 0 (.string a.name) rfl
      have p1 := cellRow HA_17.out 1 (.string a.sort) rfl
      have p2 := cellRow HA_17.out 2 (.slice aa a.kids.length ac) rfl
      have q0 := cellRow HB_17.out 0 (.string b.name) rfl
      have q1 := cellRow HB_17.out 1 (.string b.sort) rfl
      have q2 := cellRow HB_17.out 2 (.slice ba b.kids.length bc) rfl
      have r0 := cellRow HC_17.out 0 (.string c.name) rfl
      have r1 := cellRow HC_17.out 1 (.string c.sort) rfl
      have r2 := cellRow HC_17.out 2 (.slice ca c.kids.length cc) rfl
      have d0 := cellRow HD_17.out 0 (.bool false) rfl
      clear HK17
      go_wp2_with fail
      have HK18 := HCLO.out b c ba ca bc cc _ H17.out HO_17.out HD_17.out (HTB.out _ H17.out) (HTC.out _ H17.out) HFB2.out HFC2.out
      rw [HY.out] at HK18
      have HK18 := Lib.hid HK18
      refine (HK18.out).mono ?_
      rintro e w18 ⟨rfl, hw18, hd18⟩
      have H18 : Hid (Ext w w18) := Lib.hid (H17.out.trans' hw18 (fun j hj e => by have := HBB.out; omega))
      have HD_18 := Lib.hid hd18
      have HO_18 := Lib.hid (hw18.heap HO_17.out (fun e => by first | (have := HBB.out; omega) | (have := HBW.out; omega)))
      have HA_18 := Lib.hid (hw18.heap HA_17.out (fun e => by first | (have := HBB.out; omega) | (have := HBW.out; omega)))
      have HB_18 := Lib.hid (hw18.heap HB_17.out (fun e => by first | (have := HBB.out; omega) | (have := HBW.out; omega)))
      have HC_18 := Lib.hid (hw18.heap HC_17.out (fun e => by first | (have := HBB.out; omega) | (have := HBW.out; omega)))
      clear hw18 hd18 o0 p0 p1 p2 q0 q1 q2 r0 r1 r2 d0
      have o0 := cellRow HO_18.out 0 (.slice oa ops.length oc) rfl
      have p0 := cellRow HA_18.out 0 (.string a.name) rfl
      have p1 := cellRow HA_18.out 1 (.string a.sort) rfl
      have p2 := cellRow HA_18.out 2 (.slice aa a.kids.length ac) rfl
      have q0 := cellRow HB_18.out 0 (.string b.name) rfl
      have q1 := cellRow HB_18.out 1 (.string b.sort) rfl
      have q2 := cellRow HB_18.out 2 (.slice ba b.kids.length bc) rfl
      have r0 := cellRow HC_18.out 0 (.string c.name) rfl
      have r1 := cellRow HC_18.out 1 (.string c.sort) rfl
      have r2 := cellRow HC_18.out 2 (.slice ca c.kids.length cc) rfl
      have d0 := cellRow HD_18.out 0 (.bool false) rfl
      clear HK18
      go_wp2_with fail
      have HK19 := HCLO.out a c aa ca ac cc _ H18.out HO_18.out HD_18.out (HTA.out _ H18.out) (HTC.out _ H18.out) HFA2.out HFC2.out
      rw [(abF_trans HX.out HY.out)] at HK19
      have HK19 := Lib.hid HK19
      refine (HK19.out).mono ?_
      rintro e w19 ⟨rfl, hw19, hd19⟩
      have H19 : Hid (Ext w w19) := Lib.hid (H18.out.trans' hw19 (fun j hj e => by have := HBB.out; omega))
      have HD_19 := Lib.hid hd19
      have HO_19 := Lib.hid (hw19.heap HO_18.out (fun e => by first | (have := HBB.out; omega) | (have := HBW.out; omega)))
      have HA_19 := Lib.hid (hw19.heap HA_18.out (fun e => by first | (have := HBB.out; omega) | (have := HBW.out; omega)))
      have HB_19 := Lib.hid (hw19.heap HB_18.out (fun e => by first | (have := HBB.out; omega) | (have := HBW.out; omega)))
      have HC_19 := Lib.hid (hw19.heap HC_18.out (fun e => by first | (have := HBB.out; omega) | (have := HBW.out; omega)))
      clear hw19 hd19 o0 p0 p1 p2 q0 q1 q2 r0 r1 r2 d0
      have o0 := cellRow HO_19.out 0 (.slice oa ops.length oc) rfl
      have p0 := cellRow HA_19.out 0 (.string a.name) rfl
      have p1 := cellRow HA_19.out 1 (.string a.sort) rfl
      have p2 := cellRow HA_19.out 2 (.slice aa a.kids.length ac) rfl
      have q0 := cellRow HB_19.out 0 (.string b.name) rfl
      have q1 := cellRow HB_19.out 1 (.string b.sort) rfl
      have q2 := cellRow HB_19.out 2 (.slice ba b.kids.length bc) rfl
      have r0 := cellRow HC_19.out 0 (.string c.name) rfl
      have r1 := cellRow HC_19.out 1 (.string c.sort) rfl
      have r2 := cellRow HC_19.out 2 (.slice ca c.kids.length cc) rfl
      have d0 := cellRow HD_19.out 0 (.bool false) rfl
      clear HK19
      go_wp2_with fail
      go_meet
      case rel => exact ⟨rfl, H19, HO_19, HA_19, HB_19, HC_19, HD_19⟩
  case rest =>
    obtain ⟨rfl, H20, HO_20, HA_20, HB_20, HC_20, HD_20⟩ := hcut
    have o0 := cellRow HO_20.out 0 (.slice oa ops.length oc) rfl
    have p0 := cellRow HA_20.out 0 (.string a.name) rfl
    have p1 := cellRow HA_20.out 1 (.string a.sort) rfl
    have p2 := cellRow HA_20.out 2 (.slice aa a.kids.length ac) rfl
    have q0 := cellRow HB_20.out 0 (.string b.name) rfl
    have q1 := cellRow HB_20.out 1 (.string b.sort) rfl
    have q2 := cellRow HB_20.out 2 (.slice ba b.kids.length bc) rfl
    have r0 := cellRow HC_20.out 0 (.string c.name) rfl
    have r1 := cellRow HC_20.out 1 (.string c.sort) rfl
    have r2 := cellRow HC_20.out 2 (.slice ca c.kids.length cc) rfl
    have d0 := cellRow HD_20.out 0 (.bool false) rfl
    go_wp2_with fail
    refine (HATX2.out _ H20.out).mono ?_
    rintro e w30 ⟨r, rfl, hr, hw30⟩
    have H30 := Lib.hid (H20.out.trans hw30)
    have HO_30 := Lib.hid (hw30.heap HO_20.out (fun h => h))
    have HA_30 := Lib.hid (hw30.heap HA_20.out (fun h => h))
    have HB_30 := Lib.hid (hw30.heap HB_20.out (fun h => h))
    have HC_30 := Lib.hid (hw30.heap HC_20.out (fun h => h))
    have HD_30 := Lib.hid (hw30.heap HD_20.out (fun h => h))
    clear hw30 o0 p0 p1 p2 q0 q1 q2 r0 r1 r2 d0
    have o0 := cellRow HO_30.out 0 (.slice oa ops.length oc) rfl
    have p0 := cellRow HA_30.out 0 (.string a.name) rfl
    have p1 := cellRow HA_30.out 1 (.string a.sort) rfl
    have p2 := cellRow HA_30.out 2 (.slice aa a.kids.length ac) rfl
    have q0 := cellRow HB_30.out 0 (.string b.name) rfl
    have q1 := cellRow HB_30.out 1 (.string b.sort) rfl
    have q2 := cellRow HB_30.out 2 (.slice ba b.kids.length bc) rfl
    have r0 := cellRow HC_30.out 0 (.string c.name) rfl
    have r1 := cellRow HC_30.out 1 (.string c.sort) rfl
    have r2 := cellRow HC_30.out 2 (.slice ca c.kids.length cc) rfl
    have d0 := cellRow HD_30.out 0 (.bool false) rfl
    obtain ⟨TF, TE, hTF⟩ : ∃ x e, atF a pl = (x, e) := ⟨_, _, rfl⟩
    rw [hTF] at hr ⊢
    have HAF := Lib.hid hTF
    dsimp only at hr ⊢
    clear hTF
    obtain ⟨ta, tc, hrv⟩ := hr.shape
    subst hrv
    have HR30 := Lib.hid hr
    clear hr
    have HBW := Lib.hid (Array.getElem?_eq_some_iff.1 HD_30.out).1
    have hZ30 := (Upd.refl (fun _ => False) w30).alloc (.cells #[.string TF.name, .string TF.sort, .slice ta TF.kids.length tc] 25)
    have HT_31 := Lib.hid (alloc0 w30 (.cells #[.string TF.name, .string TF.sort, .slice ta TF.kids.length tc] 25))
    have H31 := Lib.hid (H30.out.trans hZ30)
    have HO_31 := Lib.hid (hZ30.heap HO_30.out (fun h => h))
    have HA_31 := Lib.hid (hZ30.heap HA_30.out (fun h => h))
    have HB_31 := Lib.hid (hZ30.heap HB_30.out (fun h => h))
    have HC_31 := Lib.hid (hZ30.heap HC_30.out (fun h => h))
    have HD_31 := Lib.hid (hZ30.heap HD_30.out (fun h => h))
    have HRT := Lib.hid (HR30.out.ext hZ30)
    clear hZ30 o0 p0 p1 p2 q0 q1 q2 r0 r1 r2 d0
    have o0 := cellRow HO_31.out 0 (.slice oa ops.length oc) rfl
    have p0 := cellRow HA_31.out 0 (.string a.name) rfl
    have p1 := cellRow HA_31.out 1 (.string a.sort) rfl
    have p2 := cellRow HA_31.out 2 (.slice aa a.kids.length ac) rfl
    have q0 := cellRow HB_31.out 0 (.string b.name) rfl
    have q1 := cellRow HB_31.out 1 (.string b.sort) rfl
    have q2 := cellRow HB_31.out 2 (.slice ba b.kids.length bc) rfl
    have r0 := cellRow HC_31.out 0 (.string c.name) rfl
    have r1 := cellRow HC_31.out 1 (.string c.sort) rfl
    have r2 := cellRow HC_31.out 2 (.slice ca c.kids.length cc) rfl
    have d0 := cellRow HD_31.out 0 (.bool false) rfl
    have t0 := cellRow HT_31.out 0 (.string TF.name) rfl
    have t1 := cellRow HT_31.out 1 (.string TF.sort) rfl
    have t2 := cellRow HT_31.out 2 (.slice ta TF.kids.length tc) rfl
    by_cases hTE : TE = 0
    case neg =>
      have e0 : (TE == 0) = false := beq_eq_false_iff_ne.2 hTE
      have e1 : (TE != 0) = true := by simp [hTE]
      go_wp2_with fail
      all_goals go_ret
      all_goals exact ⟨rfl, H31.out⟩
    subst hTE
    by_cases hp0 : pl.length = 0
    case pos =>
      have y1 : ((pl.length : Int) == 0) = true := by rw [hp0]; rfl
      have y2 : (pl.length : Int) = 0 := by omega
      go_wp2_with fail
      all_goals go_ret
      all_goals exact ⟨rfl, H31.out⟩
    have y1 : ((pl.length : Int) == 0) = false := beq_eq_false_iff_ne.2 (by omega)
    have y2 : ¬ (pl.length : Int) = 0 := by omega
    have y3 : ¬ pl = [] := fun e => hp0 (by rw [e]; rfl)
    have HNE := Lib.hid y3
    obtain ⟨LT, hLT⟩ : ∃ x, largeB TF = x := ⟨_, rfl⟩
    have HLT := Lib.hid (fun W (hW : Ext w30 W) => large_x TF _ _ W ⟨ta, tc, rfl, HR30.out.ext hW⟩)
    dsimp only [tV] at HLT
    rw [hLT] at HLT
    clear hLT hp0
    go_wp2_with fail
    refine (HLT.out _ ((Upd.refl (fun _ => False) w30).alloc _)).mono ?_
    rintro e w32 ⟨rfl, hw32⟩
    have H32 := Lib.hid (H31.out.trans hw32)
    have HO_32 := Lib.hid (hw32.heap HO_31.out (fun h => h))
    have HA_32 := Lib.hid (hw32.heap HA_31.out (fun h => h))
    have HB_32 := Lib.hid (hw32.heap HB_31.out (fun h => h))
    have HC_32 := Lib.hid (hw32.heap HC_31.out (fun h => h))
    have HD_32 := Lib.hid (hw32.heap HD_31.out (fun h => h))
    have HT_32 := Lib.hid (hw32.heap HT_31.out (fun h => h))
    have X32 := Lib.hid hw32
    clear hw32 o0 p0 p1 p2 q0 q1 q2 r0 r1 r2 d0 t0 t1 t2
    have o0 := cellRow HO_32.out 0 (.slice oa ops.length oc) rfl
    have p0 := cellRow HA_32.out 0 (.string a.name) rfl
    have p1 := cellRow HA_32.out 1 (.string a.sort) rfl
    have p2 := cellRow HA_32.out 2 (.slice aa a.kids.length ac) rfl
    have q0 := cellRow HB_32.out 0 (.string b.name) rfl
    have q1 := cellRow HB_32.out 1 (.string b.sort) rfl
    have q2 := cellRow HB_32.out 2 (.slice ba b.kids.length bc) rfl
    have r0 := cellRow HC_32.out 0 (.string c.name) rfl
    have r1 := cellRow HC_32.out 1 (.string c.sort) rfl
    have r2 := cellRow HC_32.out 2 (.slice ca c.kids.length cc) rfl
    have d0 := cellRow HD_32.out 0 (.bool false) rfl
    have t0 := cellRow HT_32.out 0 (.string TF.name) rfl
    have t1 := cellRow HT_32.out 1 (.string TF.sort) rfl
    have t2 := cellRow HT_32.out 2 (.slice ta TF.kids.length tc) rfl
    clear HLT
    cases LT
    case true =>
      go_wp2_with fail
      all_goals go_ret
      all_goals exact ⟨rfl, H32.out⟩
    obtain ⟨KA, hKA⟩ : ∃ x, knowsP ops a = x := ⟨_, rfl⟩
    have HKA := Lib.hid hKA
    have HKN2 := Lib.hid (HKN1.out _ H32.out)
    rw [hKA] at HKN2
    clear hKA
    go_wp2_with fail
    refine (HKN2.out).mono ?_
    rintro e w33 ⟨rfl, hw33⟩
    have H33 := Lib.hid (H32.out.trans hw33)
    have HO_33 := Lib.hid (hw33.heap HO_32.out (fun h => h))
    have HA_33 := Lib.hid (hw33.heap HA_32.out (fun h => h))
    have HB_33 := Lib.hid (hw33.heap HB_32.out (fun h => h))
    have HC_33 := Lib.hid (hw33.heap HC_32.out (fun h => h))
    have HD_33 := Lib.hid (hw33.heap HD_32.out (fun h => h))
    have HT_33 := Lib.hid (hw33.heap HT_32.out (fun h => h))
    have X33 := Lib.hid hw33
    clear hw33 o0 p0 p1 p2 q0 q1 q2 r0 r1 r2 d0 t0 t1 t2
    have o0 := cellRow HO_33.out 0 (.slice oa ops.length oc) rfl
    have p0 := cellRow HA_33.out 0 (.string a.name) rfl
    have p1 := cellRow HA_33.out 1 (.string a.sort) rfl
    have p2 := cellRow HA_33.out 2 (.slice aa a.kids.length ac) rfl
    have q0 := cellRow HB_33.out 0 (.string b.name) rfl
    have q1 := cellRow HB_33.out 1 (.string b.sort) rfl
    have q2 := cellRow HB_33.out 2 (.slice ba b.kids.length bc) rfl
    have r0 := cellRow HC_33.out 0 (.string c.name) rfl
    have r1 := cellRow HC_33.out 1 (.string c.sort) rfl
    have r2 := cellRow HC_33.out 2 (.slice ca c.kids.length cc) rfl
    have d0 := cellRow HD_33.out 0 (.bool false) rfl
    have t0 := cellRow HT_33.out 0 (.string TF.name) rfl
    have t1 := cellRow HT_33.out 1 (.string TF.sort) rfl
    have t2 := cellRow HT_33.out 2 (.slice ta TF.kids.length tc) rfl
    clear HKN2
    cases KA
    case false =>
      go_wp2_with fail
      all_goals go_ret
      all_goals exact ⟨rfl, H33.out⟩
    have hsub : subI a pl = some TF := by
      have h := HAF.out
      unfold atF at h
      rw [if_neg (by rw [HFA2.out]; simp)] at h
      cases hs : subI a pl with
      | none => rw [hs] at h; simp at h
      | some x => rw [hs] at h; simp only [Prod.mk.injEq] at h; rw [h.1]
    obtain ⟨hok, htm⟩ := subI_ok hsub
    have HFT : Hid (wf nmB TF = true) := Lib.hid (by rw [← htm]; exact wf_tmAt HFA2.out hok)
    have HKT : Hid (knowsP ops TF = true) := Lib.hid (by rw [← htm]; exact knows_tmAt HKA.out hok)
    have HGT : Hid (abF ops a TF = true) := Lib.hid (by
      have hg := gt_sub (ixF ops) TF (pl.map Int.toNat) a (wf_nop HFA2.out) (fun e => HNE.out (by simpa using e)) (by rw [sub_of _ _ hok, htm])
      unfold abF
      rw [HKA.out, HKT.out, hg]; rfl)
    have HBC := Lib.hid (Array.getElem?_eq_some_iff.1 HD_20.out).1
    have HTT := Lib.hid (fun W (hW : Upd (fun k => k = bb) w30 W) => (show TmR (fun k => k < W.heap.size) W TF (.agg #[.string TF.name, .string TF.sort, .slice ta TF.kids.length tc]) from ⟨ta, tc, rfl, (HR30.out.kept hW (fun k hk e => by have h1 := HBC.out; have h2 := hk.1; omega)).weaken (fun k hk => Nat.lt_of_lt_of_le hk.2 hW.size)⟩))
    clear hsub hok htm
    go_wp2_with fail
    have HK34 := HCLO.out a TF aa ta ac tc _ H33.out HO_33.out HD_33.out (HTA.out _ H33.out) (HTT.out _ (((((Upd.refl (fun _ => False) w30).alloc _).trans X32.out).trans X33.out).mono (fun _ _ x => x.elim))) HFA2.out HFT.out
    rw [HGT.out] at HK34
    have HK34 := Lib.hid HK34
    refine (HK34.out).mono ?_
    rintro e w34 ⟨rfl, hw34, hd34⟩
    have H34 : Hid (Ext w w34) := Lib.hid (H33.out.trans' hw34 (fun j hj e => by have := HBB.out; omega))
    have HD_34 := Lib.hid hd34
    have HO_34 := Lib.hid (hw34.heap HO_33.out (fun e => by first | (have := HBB.out; omega) | (have := HBW.out; omega)))
    have HA_34 := Lib.hid (hw34.heap HA_33.out (fun e => by first | (have := HBB.out; omega) | (have := HBW.out; omega)))
    have HB_34 := Lib.hid (hw34.heap HB_33.out (fun e => by first | (have := HBB.out; omega) | (have := HBW.out; omega)))
    have HC_34 := Lib.hid (hw34.heap HC_33.out (fun e => by first | (have := HBB.out; omega) | (have := HBW.out; omega)))
    have HT_34 := Lib.hid (hw34.heap HT_33.out (fun e => by first | (have := HBB.out; omega) | (have := HBW.out; omega)))
    have X34 := Lib.hid hw34
    clear hw34 hd34 o0 p0 p1 p2 q0 q1 q2 r0 r1 r2 d0 t0 t1 t2
    have o0 := cellRow HO_34.out 0 (.slice oa ops.length oc) rfl
    have p0 := cellRow HA_34.out 0 (.string a.name) rfl
    have p1 := cellRow HA_34.out 1 (.string a.sort) rfl
    have p2 := cellRow HA_34.out 2 (.slice aa a.kids.length ac) rfl
    have q0 := cellRow HB_34.out 0 (.string b.name) rfl
    have q1 := cellRow HB_34.out 1 (.string b.sort) rfl
    have q2 := cellRow HB_34.out 2 (.slice ba b.kids.length bc) rfl
    have r0 := cellRow HC_34.out 0 (.string c.name) rfl
    have r1 := cellRow HC_34.out 1 (.string c.sort) rfl
    have r2 := cellRow HC_34.out 2 (.slice ca c.kids.length cc) rfl
    have d0 := cellRow HD_34.out 0 (.bool false) rfl
    have t0 := cellRow HT_34.out 0 (.string TF.name) rfl
    have t1 := cellRow HT_34.out 1 (.string TF.sort) rfl
    have t2 := cellRow HT_34.out 2 (.slice ta TF.kids.length tc) rfl
    clear HK34
    go_wp2_with fail
    have HK35 := HCLO.out TF a ta aa tc ac _ H34.out HO_34.out HD_34.out (HTT.out _ ((((((Upd.refl (fun _ => False) w30).alloc _).trans X32.out).trans X33.out).mono (fun _ _ x => x.elim)).trans X34.out)) (HTA.out _ H34.out) HFT.out HFA2.out
    rw [(abF_asym HGT.out)] at HK35
    have HK35 := Lib.hid HK35
    refine (HK35.out).mono ?_
    rintro e w35 ⟨rfl, hw35, hd35⟩
    have H35 : Hid (Ext w w35) := Lib.hid (H34.out.trans' hw35 (fun j hj e => by have := HBB.out; omega))
    have HD_35 := Lib.hid hd35
    have HO_35 := Lib.hid (hw35.heap HO_34.out (fun e => by first | (have := HBB.out; omega) | (have := HBW.out; omega)))
    have HA_35 := Lib.hid (hw35.heap HA_34.out (fun e => by first | (have := HBB.out; omega) | (have := HBW.out; omega)))
    have HB_35 := Lib.hid (hw35.heap HB_34.out (fun e => by first | (have := HBB.out; omega) | (have := HBW.out; omega)))
    have HC_35 := Lib.hid (hw35.heap HC_34.out (fun e => by first | (have := HBB.out; omega) | (have := HBW.out; omega)))
    have HT_35 := Lib.hid (hw35.heap HT_34.out (fun e => by first | (have := HBB.out; omega) | (have := HBW.out; omega)))
    clear hw35 hd35 o0 p0 p1 p2 q0 q1 q2 r0 r1 r2 d0 t0 t1 t2
    have o0 := cellRow HO_35.out 0 (.slice oa ops.length oc) rfl
    have p0 := cellRow HA_35.out 0 (.string a.name) rfl
    have p1 := cellRow HA_35.out 1 (.string a.sort) rfl
    have p2 := cellRow HA_35.out 2 (.slice aa a.kids.length ac) rfl
    have q0 := cellRow HB_35.out 0 (.string b.name) rfl
    have q1 := cellRow HB_35.out 1 (.string b.sort) rfl
    have q2 := cellRow HB_35.out 2 (.slice ba b.kids.length bc) rfl
    have r0 := cellRow HC_35.out 0 (.string c.name) rfl
    have r1 := cellRow HC_35.out 1 (.string c.sort) rfl
    have r2 := cellRow HC_35.out 2 (.slice ca c.kids.length cc) rfl
    have d0 := cellRow HD_35.out 0 (.bool false) rfl
    have t0 := cellRow HT_35.out 0 (.string TF.name) rfl
    have t1 := cellRow HT_35.out 1 (.string TF.sort) rfl
    have t2 := cellRow HT_35.out 2 (.slice ta TF.kids.length tc) rfl
    clear HK35
    go_wp2_with fail
    all_goals go_ret
    all_goals exact ⟨by simp, H35.out⟩

end Go.Proofs.YtiimccogojkldaaDoor

/- The law PathorderOrder: the row, and the tied card. For every input the call returns true, and each argument reads as it did. -/
namespace Go.Proofs.YtiimccogojkldaaDoor
open Go.ChangeShapes Go.WideShapes Go.ChangeAt Go.RowKit Go.Hw
set_option linter.unusedVariables false
set_option linter.unusedSimpArgs false
set_option maxRecDepth 100000 in
theorem pathorderOrder_lifted (os : Os) (started : os.Started) (H : Type) (enc : TypeId × Value → H) :
    ReturnsInHanded {} Tryd.checked os 3 .any (fun w args => (Rows.pathorderOrderSpec.pre enc Tryd.prog Tryd.f3 [] false w args ∧ laidMetH Tryd.prog tabsL w) ∧ sizedMet enc Tryd.prog Tryd.f3 (OpenSpec.ofChange Rows.pathorderOrderSpec) false w args)
      (Rows.pathorderOrderSpec.post enc Tryd.prog Tryd.f3 false true false false) := by
  refine returnsInHanded_of_change_and (C := Tryd.checked) (X := fun w _ => laidMetH Tryd.prog tabsL w) (fun _ _ _ hh h => h.of_heap hh) Tryd.own started (by kernel_rfl) Tryd.func3
    (ChangeSpec.witness_shaped (enc := enc) (C := Tryd.checked) (os := os) (X := fun w _ => laidMetH Tryd.prog tabsL w) false (World.laidAll Tryd.prog os tabsL) #[.slice none 0 0, .agg #[.string ⟨#[]⟩, .string ⟨#[]⟩, .slice none 0 0], .agg #[.string ⟨#[]⟩, .string ⟨#[]⟩, .slice none 0 0], .agg #[.string ⟨#[]⟩, .string ⟨#[]⟩, .slice none 0 0], .slice none 0 0] 8 (World.laidAll_os _ _ _)
      (World.shaped_of_ZipB (by kernel_rfl) (by kernel_rfl)) (by kernel_rfl) (by kernel_rfl) (by kernel_rfl)
      (by rw [MakeChecks.laidMetH_plain _ _ _ (by kernel_rfl)]; exact laidMet_laidAll _ (by kernel_rfl) (by kernel_rfl))) ?_
  intro W base args ds gs before hval0 hW hcnd hLgt hL _
  have hval : ∀ (j : Nat) t v, Tryd.f3.params[j]? = some t → args[j]? = some v → Value.okWide Tryd.prog W .any base t v := hval0
  have hW' := hW
  obtain ⟨p, q, hA0, hV, rfl, hfz, hnd⟩ := hW
  have hA : DataW.TrodAll enc Tryd.prog W 0 (fun _ => true) true Tryd.f3.params.toList args.toList ds p := hA0
  rw [Tryd.params3] at hA hval
  obtain ⟨v0, vs0, d0, ds0, p0, q0, hargs, rfl, rfl, h0, r0⟩ := trodAll_cons hA
  obtain ⟨v1, vs1, d1, ds1, p1, q1, rfl, rfl, rfl, h1, r1⟩ := trodAll_cons r0
  obtain ⟨v2, vs2, d2, ds2, p2, q2, rfl, rfl, rfl, h2, r2⟩ := trodAll_cons r1
  obtain ⟨v3, vs3, d3, ds3, p3, q3, rfl, rfl, rfl, h3, r3⟩ := trodAll_cons r2
  obtain ⟨v4, vs4, d4, ds4, p4, q4, rfl, rfl, rfl, h4, r4⟩ := trodAll_cons r3
  obtain ⟨rfl, rfl, rfl⟩ := trodAll_nil r4
  obtain rfl : args = #[v0, v1, v2, v3, v4] := by cases args; simp_all
  obtain ⟨rfl, rfl⟩ := trodVars_none hV
  simp only [List.append_nil] at hW'
  have hlt : ∀ x ∈ p0 ++ (p1 ++ (p2 ++ (p3 ++ p4))), x.block < W.heap.size := fun x hx => by simpa using hW'.lt x hx
  have k0 : ∀ (W' : World), Below W.heap.size W W' → DataW.Trod enc Tryd.prog W' 0 (fun b => decide (b < W.heap.size)) true 22 v0 d0 p0 :=
    fun W' hn => Below.trod Tryd.laidOut (by kernel_rfl) (of_decide_eq_true (by kernel_rfl)) h0 hn (fun x hx => hlt x (by simp [hx]))
  have k1 : ∀ (W' : World), Below W.heap.size W W' → DataW.Trod enc Tryd.prog W' 0 (fun b => decide (b < W.heap.size)) true 25 v1 d1 p1 :=
    fun W' hn => Below.trod Tryd.laidOut (by kernel_rfl) (of_decide_eq_true (by kernel_rfl)) h1 hn (fun x hx => hlt x (by simp [hx]))
  have k2 : ∀ (W' : World), Below W.heap.size W W' → DataW.Trod enc Tryd.prog W' 0 (fun b => decide (b < W.heap.size)) true 25 v2 d2 p2 :=
    fun W' hn => Below.trod Tryd.laidOut (by kernel_rfl) (of_decide_eq_true (by kernel_rfl)) h2 hn (fun x hx => hlt x (by simp [hx]))
  have k3 : ∀ (W' : World), Below W.heap.size W W' → DataW.Trod enc Tryd.prog W' 0 (fun b => decide (b < W.heap.size)) true 25 v3 d3 p3 :=
    fun W' hn => Below.trod Tryd.laidOut (by kernel_rfl) (of_decide_eq_true (by kernel_rfl)) h3 hn (fun x hx => hlt x (by simp [hx]))
  have k4 : ∀ (W' : World), Below W.heap.size W W' → DataW.Trod enc Tryd.prog W' 0 (fun b => decide (b < W.heap.size)) true 26 v4 d4 p4 :=
    fun W' hn => Below.trod Tryd.laidOut (by kernel_rfl) (of_decide_eq_true (by kernel_rfl)) h4 hn (fun x hx => hlt x (by simp [hx]))
  obtain ⟨ops0, hs0, hm0⟩ := open_strs h0 (okWide_slice Tryd.underlying22 (hval 0 22 v0 rfl rfl))
  obtain ⟨t1, ht1⟩ := open_tm (hval 1 25 v1 rfl rfl) h1
  obtain ⟨t2, ht2⟩ := open_tm (hval 2 25 v2 rfl rfl) h2
  obtain ⟨t3, ht3⟩ := open_tm (hval 3 25 v3 rfl rfl) h3
  obtain ⟨pl4, hp4, hm4, hb4⟩ := open_ints0 h4 (okWide_slice Tryd.underlying26 (hval 4 26 v4 rfl rfl))
  have HT := tab_of_laid hL
  have HA := asc_of_laid hL
  clear hA0 hval0
  refine (order_law ops0 t1 t2 t3 pl4 v0 v1 v2 v3 v4 W hs0 ht1 ht2 ht3 hp4 HA HT).mono fun e W' ⟨he, hx⟩ => ?_
  subst he
  have hn := Ext.below hx
  refine ⟨_, rfl, _, _, _, [], p0 ++ (p1 ++ (p2 ++ (p3 ++ (p4 ++ [])))), [], hW', ?_, ?_, rfl, hn.frame _, fun h => by cases h⟩
  · exact trodAll_cons_mk (shut_bool Tryd.underlying4 true) trodAll_mk0
  · exact trodAll_cons_mk (k0 _ hn) (trodAll_cons_mk (k1 _ hn) (trodAll_cons_mk (k2 _ hn) (trodAll_cons_mk (k3 _ hn) (trodAll_cons_mk (k4 _ hn) trodAll_mk0))))

theorem pathorderOrder_row_holds : Rows.PathorderOrderSaid :=
  OpenClaim.holds_of_wide 3 Tryd.f3 rfl rfl rfl rfl rfl rfl rfl ⟨rfl, rfl, rfl, rfl, rfl⟩ rfl rfl rfl rfl rfl (by kernel_rfl) Tryd.func3 (by kernel_rfl)
    (of_decide_eq_true (by kernel_rfl)) (by unfold Func.isWrapper; first | (rw [if_pos (by decide +kernel)]; kernel_rfl) | (rw [if_neg (by decide +kernel)]; exact ⟨rfl, rfl⟩))
    (fun os started H enc _ => pathorderOrder_lifted os started H enc)
theorem pathorderOrder_holds : Rows.PathorderOrderCardSaid :=
  Claim7.holds_tied_plain_at .later [] [.data, .data, .data, .listed, .data] true (true, "7028d93e6a6f8cde9a3edbfd4dd4feea5aff1ce69233fd35aa76849e4aa759d8") false pathorderOrder_row_holds (fun _ h => by cases h) (by kernel_rfl) (fun _ h => by cases h) pathorderOrder_row_tie rfl ⟨rfl, rfl⟩ (by kernel_rfl) rfl
    (fun f fn hf hfn => by
      obtain rfl : f = 3 := Option.some.inj ((show Tryd.prog.funcNamed "heartwood/heartwoodlaw08.PathorderOrder" = some 3 by kernel_rfl).symm.trans hf) |>.symm
      obtain rfl : fn = Tryd.f3 := (Option.some.inj (Tryd.func3.symm.trans hfn)).symm
      exact ⟨by kernel_rfl, fun j t ht => by
        rw [Tryd.params3] at ht
        have hm : t ∈ [22, 25, 25, 25, 26] := by simpa using Array.mem_of_getElem? ht
        have hall : ([22, 25, 25, 25, 26].all fun u => !Tryd.prog.wantsStandIn u) = true := by kernel_rfl
        exact (show Tryd.prog.wantsStandIn t = false by simpa using List.all_eq_true.1 hall t hm)⟩)
    (by kernel_rfl)
#print axioms pathorderOrder_holds
end Go.Proofs.YtiimccogojkldaaDoor
