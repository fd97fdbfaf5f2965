/- The texts I84 Monotone, one behind the other. -/
import Derived.Test.YtiimccogojkldaaGreatDoorZS
import Derived.Test.YtiimccogojkldaaGreatDoorZQ
import Derived.Test.YtiimccogojkldaaGreatDoorZI
import Derived.Test.YtiimccogojkldaaGreatDoorZJ
import Derived.Deep.DeepCutAuto
import Derived.Test.YtiimccogojkldaaGreatDoorZK
/- The law Monotone. -/
namespace Go.Proofs.YtiimccogojkldaaGreatDoor
open Go.RowKit Go.Hw Go
set_option linter.unusedVariables false
set_option linter.unusedSimpArgs false

open Tm
theorem opN_putAt (y : Tm) : ∀ (p : List Nat) (t : Tm), okP t p → ∀ s ∈ opN (putAt t p y), s ∈ opN t ∨ s ∈ opN y
  | [], t, _ => fun s hs => by
    have e : putAt t [] y = y := by cases t; rfl
    rw [e] at hs
    exact .inr hs
  | i :: p, t, h => fun s hs => by
    obtain ⟨nm, so, L⟩ := t
    have e : putAt (.mk nm so L) (i :: p) y = .mk nm so (L.set i (putAt (tg L i) p y)) := rfl
    rw [e, opN_mk, List.mem_append] at hs
    rw [opN_mk, List.mem_append]
    rcases hs with hs | hs
    · exact .inl (.inl hs)
    · obtain ⟨x, hx, hs⟩ := List.mem_flatMap.1 hs
      rcases List.mem_or_eq_of_mem_set hx with h1 | h1
      · exact .inl (.inr (List.mem_flatMap.2 ⟨x, h1, hs⟩))
      · subst h1
        rcases opN_putAt y p (tg L i) h.2 s hs with h2 | h2
        · exact .inl (.inr (List.mem_flatMap.2 ⟨_, tg_in h.1, h2⟩))
        · exact .inr h2
theorem knows_putAt {ops : List By} {y : Tm} (hy : knowsP ops y = true) (p : List Nat) (t : Tm) (ht : knowsP ops t = true) (hp : okP t p) : knowsP ops (putAt t p y) = true := by
  rw [knowsP_iff] at hy ht ⊢
  intro s hs
  rcases opN_putAt y p t hp s hs with h | h
  · exact ht s h
  · exact hy s h
set_option maxRecDepth 100000 in
set_option maxHeartbeats 2000000 in
theorem mono_law (g : Sg) (ops : List By) (a b : Tm) (pl : List Int) (gv ov va vb pv : Value) (w : World) (hG : SgR (fun k => k < w.heap.size) w g gv) (hO : StR (fun k => k < w.heap.size) w ov ops) (ha : TmR (fun k => k < w.heap.size) w a va) (hb : TmR (fun k => k < w.heap.size) w b vb)
    (hp : SlR (fun k => k < w.heap.size) w 1 pv pl.length (pl.map (Value.int .i64))) (htab : AscT w) (hpow : Lib.TabIs Tryz.prog w "internal/strconv.uint64pow10" .u64 Lib.pow10Tab) :
    Calls Tryz.prog 7 #[gv, ov, va, vb, pv] w fun e w' => e = .returned (.bool true) ∧ Ext w w' := by
  have HAW := Lib.hid (fun W (hW : Ext w W) => awake_x W (asc_ext htab hW) (pow_upd hpow hW (fun _ _ h => h)))
  have HLO := Lib.hid (fun W (hW : Ext w W) => long_x ops ov _ W (SlR.kept hO hW (fun _ _ h => h)))
  have HLA1 := Lib.hid (fun W (hW : Ext w W) => large_x a va _ W (ha.ext hW))
  have HLB1 := Lib.hid (fun W (hW : Ext w W) => large_x b vb _ W (hb.ext hW))
  have HPR := Lib.hid (fun W (hW : Ext w W) => rprec_x ops ov _ W (SlR.kept hO hW (fun _ _ h => h)))
  have HFA1 := Lib.hid (fun W (hW : Ext w W) => rformed_x a va _ W (ha.ext hW))
  have HFB1 := Lib.hid (fun W (hW : Ext w W) => rformed_x b vb _ W (hb.ext hW))
  have HKA := Lib.hid (fun (hl : ops.length ≤ 120) (hz : a.size ≤ 30) W (hW : Ext w W) => rknows_x ops a ov va _ _ W (SlR.kept hO hW (fun _ _ h => h)) (ha.ext hW) (by omega) (by omega))
  have HKB := Lib.hid (fun (hl : ops.length ≤ 120) (hz : b.size ≤ 30) W (hW : Ext w W) => rknows_x ops b ov vb _ _ W (SlR.kept hO hW (fun _ _ h => h)) (hb.ext hW) (by omega) (by omega))
  have HATX := Lib.hid (fun (hz : a.size ≤ 30) (hl : pl.length ≤ 12) W (hW : Ext w W) => At_x a pl va pv _ _ W (ha.ext hW) (fun k hk => Nat.lt_of_lt_of_le hk hW.size) (SlR.kept hp hW (fun _ _ h => h)) (asc_ext htab hW) (by omega) (by omega))
  have HRPX := Lib.hid (fun (hz : a.size ≤ 30) (hz2 : b.size ≤ 30) (hl : pl.length ≤ 12) W (hW : Ext w W) => Replace_x a b pl va vb pv _ _ W (ha.ext hW) (hb.ext hW) (fun k hk => Nat.lt_of_lt_of_le hk hW.size) (SlR.kept hp hW (fun _ _ h => h)) (asc_ext htab hW) (by omega) (by omega) (by omega))
  have HVS := Lib.hid (fun (h1 : g.1.length ≤ 40) (h2 : g.2.length ≤ 40) W (hW : Ext w W) => vsig_x g gv _ W (hG.ext hW) (by omega) (by omega))
  have HVA := Lib.hid (fun (h1 : g.1.length ≤ 40) (h2 : g.2.length ≤ 40) W (hW : Ext w W) => rvalid_x g a gv va _ _ W (hG.ext hW) (ha.ext hW) (by omega) (by omega))
  have HVB := Lib.hid (fun (h1 : g.1.length ≤ 40) (h2 : g.2.length ≤ 40) W (hW : Ext w W) => rvalid_x g b gv vb _ _ W (hG.ext hW) (hb.ext hW) (by omega) (by omega))
  have HRA := Lib.hid (fun (h : wf nmB a = true) W (hW : Ext w W) => rvars_x a va _ W (ha.ext hW) h)
  have HRB := Lib.hid (fun (h : wf nmB b = true) W (hW : Ext w W) => rvars_x b vb _ W (hb.ext hW) h)
  have HSM := Lib.hid (fun (hz : a.size ≤ 30) W (hW : Ext w W) => same_x a b va vb _ _ W (ha.ext hW) (hb.ext hW) (by omega))
  have HTA := Lib.hid (fun W (hW : Ext w W) => (ha.ext hW).weaken (fun k hk => Nat.lt_of_lt_of_le hk hW.size))
  have HTB := Lib.hid (fun W (hW : Ext w W) => (hb.ext hW).weaken (fun k hk => Nat.lt_of_lt_of_le hk hW.size))
  have HPG : Hid (∀ (x y : Tm) (vx vy : Value) W, Ext w W → ops.length ≤ 120 → TmR (fun k => k < W.heap.size) W x vx → TmR (fun k => k < W.heap.size) W y vy → x.size ≤ 1000 → y.size ≤ 1000 → Calls Tryz.prog 12 #[ov, vx, vy] W fun e w' => e = .returned (.tuple #[.bool (grF ops x y).1, .int .i64 (grF ops x y).2]) ∧ Ext W w') := Lib.hid (fun x y vx vy W hW hl hx hy h1 h2 =>
    pgreater_x ops x y ov vx vy _ W (asc_ext htab hW) (pow_upd hpow hW (fun _ _ h => h)) (SlR.weaken (SlR.kept hO hW (fun _ _ h => h)) (fun k hk => Nat.lt_of_lt_of_le hk hW.size)) hx hy (fun k hk => hk) (by omega) (by omega) (by omega))
  obtain ⟨oa2, oc2, rfl⟩ := SlR.shape hO
  obtain ⟨pa, pc, rfl⟩ := SlR.shape hp
  obtain ⟨sa, sc, oa, oc, rfl, _, _⟩ := hG
  obtain ⟨aa, ac, rfl, _⟩ := ha
  obtain ⟨ba, bc, rfl, _⟩ := hb
  dsimp only [tV] at HLA1 HLB1 HFA1 HFB1 HKA HKB HTA HTB HATX HRPX HVA HVB HRA HRB HSM ⊢
  obtain ⟨LA1, hLA⟩ : ∃ x, largeB a = x := ⟨_, rfl⟩
  obtain ⟨LB1, hLB⟩ : ∃ x, largeB b = x := ⟨_, rfl⟩
  obtain ⟨PR1, hPR⟩ : ∃ x, precP nmB ops = x := ⟨_, rfl⟩
  obtain ⟨FA1, hFA⟩ : ∃ x, wf nmB a = x := ⟨_, rfl⟩
  obtain ⟨FB1, hFB⟩ : ∃ x, wf nmB b = x := ⟨_, rfl⟩
  obtain ⟨KA, hKA⟩ : ∃ x, knowsP ops a = x := ⟨_, rfl⟩
  obtain ⟨KB, hKB⟩ : ∃ x, knowsP ops b = x := ⟨_, rfl⟩
  rw [hLA] at HLA1
  rw [hLB] at HLB1
  rw [hPR] at HPR
  rw [hFA] at HFA1
  rw [hFB] at HFB1
  rw [hKA] at HKA
  rw [hKB] at HKB
  have HPRE := Lib.hid hPR
  have HFA2 := Lib.hid hFA
  have HFB2 := Lib.hid hFB
  have HKA2 := Lib.hid hKA
  have HKB2 := Lib.hid hKB
  have HSA : Hid (LA1 = false → a.size ≤ 30) := Lib.hid (fun h => small_of (hLA.trans h))
  have HSB : Hid (LB1 = false → b.size ≤ 30) := Lib.hid (fun h => small_of (hLB.trans h))
  have H0 : Hid (Ext w (((w.alloc (.cells #[.slice sa g.1.length sc, .slice oa g.2.length oc] 58)).alloc (.cells #[.string a.name, .string a.sort, .slice aa a.kids.length ac] 25)).alloc (.cells #[.string b.name, .string b.sort, .slice ba b.kids.length bc] 25))) := Lib.hid ((((Upd.refl (fun _ => False) w).alloc _).alloc _).alloc _)
  have HG : Hid ((((w.alloc (.cells #[.slice sa g.1.length sc, .slice oa g.2.length oc] 58)).alloc (.cells #[.string a.name, .string a.sort, .slice aa a.kids.length ac] 25)).alloc (.cells #[.string b.name, .string b.sort, .slice ba b.kids.length bc] 25)).heap[w.heap.size]? = some (.cells #[.slice sa g.1.length sc, .slice oa g.2.length oc] 58 (0, 0))) := Lib.hid (allocOld (allocOld (alloc0 w (.cells #[.slice sa g.1.length sc, .slice oa g.2.length oc] 58)) _) _)
  have HA : Hid ((((w.alloc (.cells #[.slice sa g.1.length sc, .slice oa g.2.length oc] 58)).alloc (.cells #[.string a.name, .string a.sort, .slice aa a.kids.length ac] 25)).alloc (.cells #[.string b.name, .string b.sort, .slice ba b.kids.length bc] 25)).heap[w.heap.size + 1]? = some (.cells #[.string a.name, .string a.sort, .slice aa a.kids.length ac] 25 (0, 0))) := Lib.hid (allocOld (alloc_at (w.alloc (.cells #[.slice sa g.1.length sc, .slice oa g.2.length oc] 58)) (.cells #[.string a.name, .string a.sort, .slice aa a.kids.length ac] 25) (n := w.heap.size + 1) (by simp)) _)
  have HB : Hid ((((w.alloc (.cells #[.slice sa g.1.length sc, .slice oa g.2.length oc] 58)).alloc (.cells #[.string a.name, .string a.sort, .slice aa a.kids.length ac] 25)).alloc (.cells #[.string b.name, .string b.sort, .slice ba b.kids.length bc] 25)).heap[w.heap.size + 2]? = some (.cells #[.string b.name, .string b.sort, .slice ba b.kids.length bc] 25 (0, 0))) := Lib.hid (alloc_at ((w.alloc (.cells #[.slice sa g.1.length sc, .slice oa g.2.length oc] 58)).alloc (.cells #[.string a.name, .string a.sort, .slice aa a.kids.length ac] 25)) (.cells #[.string b.name, .string b.sort, .slice ba b.kids.length bc] 25) (n := w.heap.size + 2) (by simp))
  clear hO hp htab hpow hLA hLB hPR hFA hFB hKA hKB
  have o0 := cellRow HG.out 0 (.slice sa g.1.length sc) rfl
  have o1 := cellRow HG.out 1 (.slice oa g.2.length oc) rfl
  have p0 := cellRow HA.out 0 (.string a.name) rfl
  have p1 := cellRow HA.out 1 (.string a.sort) rfl
  have p2 := cellRow HA.out 2 (.slice aa a.kids.length ac) rfl
  have q0 := cellRow HB.out 0 (.string b.name) rfl
  have q1 := cellRow HB.out 1 (.string b.sort) rfl
  have q2 := cellRow HB.out 2 (.slice ba b.kids.length bc) rfl
  go_enter Tryz.func7, Tryz.ntmps7
  go_wp2_with fail
  refine (HAW.out _ H0.out).mono ?_
  rintro e w4 ⟨rfl, hw4⟩
  have H4 := Lib.hid (H0.out.trans hw4)
  have HG_4 := Lib.hid (hw4.heap HG.out (fun h => h))
  have HA_4 := Lib.hid (hw4.heap HA.out (fun h => h))
  have HB_4 := Lib.hid (hw4.heap HB.out (fun h => h))
  clear hw4 o0 o1 p0 p1 p2 q0 q1 q2
  have o0 := cellRow HG_4.out 0 (.slice sa g.1.length sc) rfl
  have o1 := cellRow HG_4.out 1 (.slice oa g.2.length oc) rfl
  have p0 := cellRow HA_4.out 0 (.string a.name) rfl
  have p1 := cellRow HA_4.out 1 (.string a.sort) rfl
  have p2 := cellRow HA_4.out 2 (.slice aa a.kids.length ac) rfl
  have q0 := cellRow HB_4.out 0 (.string b.name) rfl
  have q1 := cellRow HB_4.out 1 (.string b.sort) rfl
  have q2 := cellRow HB_4.out 2 (.slice ba b.kids.length bc) rfl
  clear HAW
  go_wp2_with fail
  refine (HLO.out _ H4.out).mono ?_
  rintro e w5 ⟨⟨lb, rfl, hlb⟩, hw5⟩
  have H5 := Lib.hid (H4.out.trans hw5)
  have HG_5 := Lib.hid (hw5.heap HG_4.out (fun h => h))
  have HA_5 := Lib.hid (hw5.heap HA_4.out (fun h => h))
  have HB_5 := Lib.hid (hw5.heap HB_4.out (fun h => h))
  clear hw5 o0 o1 p0 p1 p2 q0 q1 q2
  have o0 := cellRow HG_5.out 0 (.slice sa g.1.length sc) rfl
  have o1 := cellRow HG_5.out 1 (.slice oa g.2.length oc) rfl
  have p0 := cellRow HA_5.out 0 (.string a.name) rfl
  have p1 := cellRow HA_5.out 1 (.string a.sort) rfl
  have p2 := cellRow HA_5.out 2 (.slice aa a.kids.length ac) rfl
  have q0 := cellRow HB_5.out 0 (.string b.name) rfl
  have q1 := cellRow HB_5.out 1 (.string b.sort) rfl
  have q2 := cellRow HB_5.out 2 (.slice ba b.kids.length bc) rfl
  have HL := Lib.hid hlb
  clear HLO hlb
  cases lb
  case true =>
    go_wp2_with fail
    all_goals go_ret
    all_goals exact ⟨rfl, H5.out⟩
  have HLL := Lib.hid (HL.out rfl)
  clear HL
  go_wp2_with fail
  refine (HLA1.out _ H5.out).mono ?_
  rintro e w6 ⟨rfl, hw6⟩
  have H6 := Lib.hid (H5.out.trans hw6)
  have HG_6 := Lib.hid (hw6.heap HG_5.out (fun h => h))
  have HA_6 := Lib.hid (hw6.heap HA_5.out (fun h => h))
  have HB_6 := Lib.hid (hw6.heap HB_5.out (fun h => h))
  clear hw6 o0 o1 p0 p1 p2 q0 q1 q2
  have o0 := cellRow HG_6.out 0 (.slice sa g.1.length sc) rfl
  have o1 := cellRow HG_6.out 1 (.slice oa g.2.length oc) rfl
  have p0 := cellRow HA_6.out 0 (.string a.name) rfl
  have p1 := cellRow HA_6.out 1 (.string a.sort) rfl
  have p2 := cellRow HA_6.out 2 (.slice aa a.kids.length ac) rfl
  have q0 := cellRow HB_6.out 0 (.string b.name) rfl
  have q1 := cellRow HB_6.out 1 (.string b.sort) rfl
  have q2 := cellRow HB_6.out 2 (.slice ba b.kids.length bc) rfl
  cases LA1
  case true =>
    go_wp2_with fail
    all_goals go_ret
    all_goals exact ⟨rfl, H6.out⟩
  go_wp2_with fail
  refine (HLB1.out _ H6.out).mono ?_
  rintro e w7 ⟨rfl, hw7⟩
  have H7 := Lib.hid (H6.out.trans hw7)
  have HG_7 := Lib.hid (hw7.heap HG_6.out (fun h => h))
  have HA_7 := Lib.hid (hw7.heap HA_6.out (fun h => h))
  have HB_7 := Lib.hid (hw7.heap HB_6.out (fun h => h))
  clear hw7 o0 o1 p0 p1 p2 q0 q1 q2
  have o0 := cellRow HG_7.out 0 (.slice sa g.1.length sc) rfl
  have o1 := cellRow HG_7.out 1 (.slice oa g.2.length oc) rfl
  have p0 := cellRow HA_7.out 0 (.string a.name) rfl
  have p1 := cellRow HA_7.out 1 (.string a.sort) rfl
  have p2 := cellRow HA_7.out 2 (.slice aa a.kids.length ac) rfl
  have q0 := cellRow HB_7.out 0 (.string b.name) rfl
  have q1 := cellRow HB_7.out 1 (.string b.sort) rfl
  have q2 := cellRow HB_7.out 2 (.slice ba b.kids.length bc) rfl
  cases LB1
  case true =>
    go_wp2_with fail
    all_goals go_ret
    all_goals exact ⟨rfl, H7.out⟩
  by_cases hbz1 : 12 < pl.length
  · have z1 : (12 : Int) < (pl.length : Int) := by omega
    have z1' : decide ((12 : Int) < (pl.length : Int)) = true := decide_eq_true z1
    go_wp2_with fail
    all_goals go_ret
    all_goals exact ⟨rfl, H7.out⟩
  have z1 : ¬ (12 : Int) < (pl.length : Int) := by omega
  have z1' : decide ((12 : Int) < (pl.length : Int)) = false := decide_eq_false z1
  by_cases hbz2 : 40 < g.2.length
  · have z2 : (40 : Int) < (g.2.length : Int) := by omega
    have z2' : decide ((40 : Int) < (g.2.length : Int)) = true := decide_eq_true z2
    go_wp2_with fail
    all_goals go_ret
    all_goals exact ⟨rfl, H7.out⟩
  have z2 : ¬ (40 : Int) < (g.2.length : Int) := by omega
  have z2' : decide ((40 : Int) < (g.2.length : Int)) = false := decide_eq_false z2
  by_cases hbz3 : 40 < g.1.length
  · have z3 : (40 : Int) < (g.1.length : Int) := by omega
    have z3' : decide ((40 : Int) < (g.1.length : Int)) = true := decide_eq_true z3
    go_wp2_with fail
    all_goals go_ret
    all_goals exact ⟨rfl, H7.out⟩
  have z3 : ¬ (40 : Int) < (g.1.length : Int) := by omega
  have z3' : decide ((40 : Int) < (g.1.length : Int)) = false := decide_eq_false z3
  have HPLL := Lib.hid hbz1
  have HGL := Lib.hid (And.intro hbz2 hbz3)
  clear hbz1 hbz2 hbz3
  have HSA2 := HSA.out (by simp)
  have HSB2 := HSB.out (by simp)
  have HATX2 := Lib.hid (HATX.out HSA2 (by have := HPLL.out; omega))
  have HRPX2 := Lib.hid (HRPX.out HSA2 HSB2 (by have := HPLL.out; omega))
  have HKA1 := Lib.hid (HKA.out HLL.out HSA2)
  have HKB1 := Lib.hid (HKB.out HLL.out HSB2)
  have HVS1 := Lib.hid (HVS.out (by have := HGL.out; omega) (by have := HGL.out; omega))
  have HVA1 := Lib.hid (HVA.out (by have := HGL.out; omega) (by have := HGL.out; omega))
  have HVB1 := Lib.hid (HVB.out (by have := HGL.out; omega) (by have := HGL.out; omega))
  have HSZ := Lib.hid (And.intro HSA2 HSB2)
  clear HATX HRPX HKA HKB HVS HVA HVB HSA HSB HSA2 HSB2
  go_wp2_with fail
  refine (HPR.out _ H7.out).mono ?_
  rintro e w9 ⟨rfl, hw9⟩
  have H9 := Lib.hid (H7.out.trans hw9)
  have HG_9 := Lib.hid (hw9.heap HG_7.out (fun h => h))
  have HA_9 := Lib.hid (hw9.heap HA_7.out (fun h => h))
  have HB_9 := Lib.hid (hw9.heap HB_7.out (fun h => h))
  clear hw9 o0 o1 p0 p1 p2 q0 q1 q2
  have o0 := cellRow HG_9.out 0 (.slice sa g.1.length sc) rfl
  have o1 := cellRow HG_9.out 1 (.slice oa g.2.length oc) rfl
  have p0 := cellRow HA_9.out 0 (.string a.name) rfl
  have p1 := cellRow HA_9.out 1 (.string a.sort) rfl
  have p2 := cellRow HA_9.out 2 (.slice aa a.kids.length ac) rfl
  have q0 := cellRow HB_9.out 0 (.string b.name) rfl
  have q1 := cellRow HB_9.out 1 (.string b.sort) rfl
  have q2 := cellRow HB_9.out 2 (.slice ba b.kids.length bc) rfl
  cases PR1
  case false =>
    go_wp2_with fail
    all_goals go_ret
    all_goals exact ⟨rfl, H9.out⟩
  clear HPR
  go_wp2_with fail
  refine (HFA1.out _ H9.out).mono ?_
  rintro e w10 ⟨rfl, hw10⟩
  have H10 := Lib.hid (H9.out.trans hw10)
  have HG_10 := Lib.hid (hw10.heap HG_9.out (fun h => h))
  have HA_10 := Lib.hid (hw10.heap HA_9.out (fun h => h))
  have HB_10 := Lib.hid (hw10.heap HB_9.out (fun h => h))
  clear hw10 o0 o1 p0 p1 p2 q0 q1 q2
  have o0 := cellRow HG_10.out 0 (.slice sa g.1.length sc) rfl
  have o1 := cellRow HG_10.out 1 (.slice oa g.2.length oc) rfl
  have p0 := cellRow HA_10.out 0 (.string a.name) rfl
  have p1 := cellRow HA_10.out 1 (.string a.sort) rfl
  have p2 := cellRow HA_10.out 2 (.slice aa a.kids.length ac) rfl
  have q0 := cellRow HB_10.out 0 (.string b.name) rfl
  have q1 := cellRow HB_10.out 1 (.string b.sort) rfl
  have q2 := cellRow HB_10.out 2 (.slice ba b.kids.length bc) rfl
  cases FA1
  case false =>
    go_wp2_with fail
    all_goals go_ret
    all_goals exact ⟨rfl, H10.out⟩
  clear HFA1
  go_wp2_with fail
  refine (HFB1.out _ H10.out).mono ?_
  rintro e w11 ⟨rfl, hw11⟩
  have H11 := Lib.hid (H10.out.trans hw11)
  have HG_11 := Lib.hid (hw11.heap HG_10.out (fun h => h))
  have HA_11 := Lib.hid (hw11.heap HA_10.out (fun h => h))
  have HB_11 := Lib.hid (hw11.heap HB_10.out (fun h => h))
  clear hw11 o0 o1 p0 p1 p2 q0 q1 q2
  have o0 := cellRow HG_11.out 0 (.slice sa g.1.length sc) rfl
  have o1 := cellRow HG_11.out 1 (.slice oa g.2.length oc) rfl
  have p0 := cellRow HA_11.out 0 (.string a.name) rfl
  have p1 := cellRow HA_11.out 1 (.string a.sort) rfl
  have p2 := cellRow HA_11.out 2 (.slice aa a.kids.length ac) rfl
  have q0 := cellRow HB_11.out 0 (.string b.name) rfl
  have q1 := cellRow HB_11.out 1 (.string b.sort) rfl
  have q2 := cellRow HB_11.out 2 (.slice ba b.kids.length bc) rfl
  cases FB1
  case false =>
    go_wp2_with fail
    all_goals go_ret
    all_goals exact ⟨rfl, H11.out⟩
  clear HFB1
  go_wp2_with fail
  refine (HKA1.out _ H11.out).mono ?_
  rintro e w12 ⟨rfl, hw12⟩
  have H12 := Lib.hid (H11.out.trans hw12)
  have HG_12 := Lib.hid (hw12.heap HG_11.out (fun h => h))
  have HA_12 := Lib.hid (hw12.heap HA_11.out (fun h => h))
  have HB_12 := Lib.hid (hw12.heap HB_11.out (fun h => h))
  clear hw12 o0 o1 p0 p1 p2 q0 q1 q2
  have o0 := cellRow HG_12.out 0 (.slice sa g.1.length sc) rfl
  have o1 := cellRow HG_12.out 1 (.slice oa g.2.length oc) rfl
  have p0 := cellRow HA_12.out 0 (.string a.name) rfl
  have p1 := cellRow HA_12.out 1 (.string a.sort) rfl
  have p2 := cellRow HA_12.out 2 (.slice aa a.kids.length ac) rfl
  have q0 := cellRow HB_12.out 0 (.string b.name) rfl
  have q1 := cellRow HB_12.out 1 (.string b.sort) rfl
  have q2 := cellRow HB_12.out 2 (.slice ba b.kids.length bc) rfl
  cases KA
  case false =>
    go_wp2_with fail
    all_goals go_ret
    all_goals exact ⟨rfl, H12.out⟩
  clear HKA1
  go_wp2_with fail
  refine (HKB1.out _ H12.out).mono ?_
  rintro e w13 ⟨rfl, hw13⟩
  have H13 := Lib.hid (H12.out.trans hw13)
  have HG_13 := Lib.hid (hw13.heap HG_12.out (fun h => h))
  have HA_13 := Lib.hid (hw13.heap HA_12.out (fun h => h))
  have HB_13 := Lib.hid (hw13.heap HB_12.out (fun h => h))
  clear hw13 o0 o1 p0 p1 p2 q0 q1 q2
  have o0 := cellRow HG_13.out 0 (.slice sa g.1.length sc) rfl
  have o1 := cellRow HG_13.out 1 (.slice oa g.2.length oc) rfl
  have p0 := cellRow HA_13.out 0 (.string a.name) rfl
  have p1 := cellRow HA_13.out 1 (.string a.sort) rfl
  have p2 := cellRow HA_13.out 2 (.slice aa a.kids.length ac) rfl
  have q0 := cellRow HB_13.out 0 (.string b.name) rfl
  have q1 := cellRow HB_13.out 1 (.string b.sort) rfl
  have q2 := cellRow HB_13.out 2 (.slice ba b.kids.length bc) rfl
  cases KB
  case false =>
    go_wp2_with fail
    all_goals go_ret
    all_goals exact ⟨rfl, H13.out⟩
  clear HKB1 z1 z1' z2 z2' z3 z3'
  have HGR : Hid (∀ x y, wf nmB x = true → wf nmB y = true → knowsP ops x = true → knowsP ops y = true → grF ops x y = (gt (ixF ops) x y, 0)) := Lib.hid (fun x y h1 h2 h3 h4 => by
    unfold grF
    rw [if_neg (by rw [HPRE.out, h1, h2]; simp), if_neg (by rw [h3, h4]; simp)])
  go_wp2_with fail
  refine (HATX2.out _ H13.out).mono ?_
  rintro e w14 ⟨r, rfl, hr, hw14⟩
  have H14 := Lib.hid (H13.out.trans hw14)
  have HG_14 := Lib.hid (hw14.heap HG_13.out (fun h => h))
  have HA_14 := Lib.hid (hw14.heap HA_13.out (fun h => h))
  have HB_14 := Lib.hid (hw14.heap HB_13.out (fun h => h))
  clear hw14 o0 o1 p0 p1 p2 q0 q1 q2
  have o0 := cellRow HG_14.out 0 (.slice sa g.1.length sc) rfl
  have o1 := cellRow HG_14.out 1 (.slice oa g.2.length oc) rfl
  have p0 := cellRow HA_14.out 0 (.string a.name) rfl
  have p1 := cellRow HA_14.out 1 (.string a.sort) rfl
  have p2 := cellRow HA_14.out 2 (.slice aa a.kids.length ac) rfl
  have q0 := cellRow HB_14.out 0 (.string b.name) rfl
  have q1 := cellRow HB_14.out 1 (.string b.sort) rfl
  have q2 := cellRow HB_14.out 2 (.slice ba b.kids.length bc) rfl
  obtain ⟨TF, TE, hTF⟩ : ∃ x e, atF a pl = (x, e) := ⟨_, _, rfl⟩
  rw [hTF] at hr ⊢
  have HAF := Lib.hid hTF
  dsimp only at hr ⊢
  clear hTF HATX2
  obtain ⟨ta, tc, hrv⟩ := hr.shape
  subst hrv
  have HRT14 := Lib.hid (hr.weaken (fun k hk => hk.2))
  clear hr
  have hZ := (Upd.refl (fun _ => False) w14).alloc (.cells #[.string TF.name, .string TF.sort, .slice ta TF.kids.length tc] 25)
  have HT_15 := Lib.hid (alloc0 w14 (.cells #[.string TF.name, .string TF.sort, .slice ta TF.kids.length tc] 25))
  have H15 := Lib.hid (H14.out.trans hZ)
  have HG_15 := Lib.hid (hZ.heap HG_14.out (fun h => h))
  have HA_15 := Lib.hid (hZ.heap HA_14.out (fun h => h))
  have HB_15 := Lib.hid (hZ.heap HB_14.out (fun h => h))
  have HRT := Lib.hid (HRT14.out.ext hZ)
  clear hZ o0 o1 p0 p1 p2 q0 q1 q2
  have o0 := cellRow HG_15.out 0 (.slice sa g.1.length sc) rfl
  have o1 := cellRow HG_15.out 1 (.slice oa g.2.length oc) rfl
  have p0 := cellRow HA_15.out 0 (.string a.name) rfl
  have p1 := cellRow HA_15.out 1 (.string a.sort) rfl
  have p2 := cellRow HA_15.out 2 (.slice aa a.kids.length ac) rfl
  have q0 := cellRow HB_15.out 0 (.string b.name) rfl
  have q1 := cellRow HB_15.out 1 (.string b.sort) rfl
  have q2 := cellRow HB_15.out 2 (.slice ba b.kids.length bc) rfl
  have t0 := cellRow HT_15.out 0 (.string TF.name) rfl
  have t1 := cellRow HT_15.out 1 (.string TF.sort) rfl
  have t2 := cellRow HT_15.out 2 (.slice ta TF.kids.length tc) rfl
  obtain ⟨LT, hLT⟩ : ∃ x, largeB TF = x := ⟨_, rfl⟩
  have HLTT := Lib.hid hLT
  go_upto_region 6 with fail
  have HRU : Hid (TlR (fun k => k < (w14.alloc (.cells #[.string TF.name, .string TF.sort, .slice ta TF.kids.length tc] 25)).heap.size) (w14.alloc (.cells #[.string TF.name, .string TF.sort, .slice ta TF.kids.length tc] 25)) TF.kids (.slice ta TF.kids.length tc)) := Lib.hid (HRT.out.weaken (fun k hk => by have h1 := (Array.getElem?_eq_some_iff.1 HT_15.out).1; omega))
  have HLT := Lib.hid (fun W (hW : Ext (w14.alloc (.cells #[.string TF.name, .string TF.sort, .slice ta TF.kids.length tc] 25)) W) => large_x TF _ _ W ⟨ta, tc, rfl, HRU.out.ext hW⟩)
  dsimp only [tV] at HLT
  rw [hLT] at HLT
  clear hLT HRT HRT14
  go_cut [91] (fun s ww => s = .bool (decide (TE = 0) && !LT) ∧ Hid (Ext (w14.alloc (.cells #[.string TF.name, .string TF.sort, .slice ta TF.kids.length tc] 25)) ww))
  case first =>
    by_cases hTE : TE = 0
    case neg =>
      have e0 : (TE == 0) = false := beq_eq_false_iff_ne.2 hTE
      have e1 : decide (TE = 0) = false := decide_eq_false hTE
      go_wp2_with fail
      go_meet
      case rel => exact ⟨by simp [hTE], Lib.hid (Upd.refl _ _)⟩
    subst hTE
    go_wp2_with fail
    refine (HLT.out _ (Upd.refl _ _)).mono ?_
    rintro e w16 ⟨rfl, hw16⟩
    have H16 := Lib.hid hw16
    clear hw16
    cases LT
    · go_wp2_with fail
      go_meet
      case rel => exact ⟨rfl, H16⟩
    · go_wp2_with fail
      go_meet
      case rel => exact ⟨rfl, H16⟩
  case rest =>
    obtain ⟨rfl, HX⟩ := hcut
    obtain ⟨P, hP⟩ : ∃ P, (decide (TE = 0) && !LT) = P := ⟨_, rfl⟩
    rw [hP]
    have HPP := Lib.hid hP
    clear hP
    have HG_17 := Lib.hid (HX.out.heap HG_15.out (fun h => h))
    have HA_17 := Lib.hid (HX.out.heap HA_15.out (fun h => h))
    have HB_17 := Lib.hid (HX.out.heap HB_15.out (fun h => h))
    have HT_17 := Lib.hid (HX.out.heap HT_15.out (fun h => h))
    have H17 := Lib.hid (H15.out.trans HX.out)
    clear o0 o1 p0 p1 p2 q0 q1 q2 t0 t1 t2
    have o0 := cellRow HG_17.out 0 (.slice sa g.1.length sc) rfl
    have o1 := cellRow HG_17.out 1 (.slice oa g.2.length oc) rfl
    have p0 := cellRow HA_17.out 0 (.string a.name) rfl
    have p1 := cellRow HA_17.out 1 (.string a.sort) rfl
    have p2 := cellRow HA_17.out 2 (.slice aa a.kids.length ac) rfl
    have q0 := cellRow HB_17.out 0 (.string b.name) rfl
    have q1 := cellRow HB_17.out 1 (.string b.sort) rfl
    have q2 := cellRow HB_17.out 2 (.slice ba b.kids.length bc) rfl
    have t0 := cellRow HT_17.out 0 (.string TF.name) rfl
    have t1 := cellRow HT_17.out 1 (.string TF.sort) rfl
    have t2 := cellRow HT_17.out 2 (.slice ta TF.kids.length tc) rfl
    go_upto_if 91 with fail
    go_cut [7] (fun s ww => s = .pointer (some ⟨w.heap.size + 1, 0, none⟩) ∧ Hid (Ext w ww) ∧ Hid (ww.heap[w.heap.size]? = some (.cells #[.slice sa g.1.length sc, .slice oa g.2.length oc] 58 (0, 0))) ∧ Hid (ww.heap[w.heap.size + 1]? = some (.cells #[.string a.name, .string a.sort, .slice aa a.kids.length ac] 25 (0, 0))) ∧ Hid (ww.heap[w.heap.size + 2]? = some (.cells #[.string b.name, .string b.sort, .slice ba b.kids.length bc] 25 (0, 0))))
    case first =>
      cases P
      case false =>
        go_wp2_with fail
        go_meet
        case rel => exact ⟨rfl, H17, HG_17, HA_17, HB_17⟩
      obtain ⟨hTE, hLT⟩ : TE = 0 ∧ LT = false := by
        have h := HPP.out
        rw [Bool.and_eq_true, decide_eq_true_eq] at h
        exact ⟨h.1, by simpa using h.2⟩
      subst hLT
      subst hTE
      have hsub : subI a pl = some TF := by
        have h := HAF.out
        unfold atF at h
        rw [if_neg (by rw [HFA2.out]; simp)] at h
        cases hs : subI a pl with
        | none => rw [hs] at h; simp at h
        | some x => rw [hs] at h; simp only [Prod.mk.injEq] at h; rw [h.1]
      obtain ⟨hok, htm⟩ := subI_ok hsub
      have HSUB := Lib.hid hsub
      have HOK := Lib.hid hok
      have HTM := Lib.hid htm
      have HFT : Hid (wf nmB TF = true) := Lib.hid (by rw [← htm]; exact wf_tmAt HFA2.out hok)
      have HKT : Hid (knowsP ops TF = true) := Lib.hid (by rw [← htm]; exact knows_tmAt HKA2.out hok)
      have HP1 := Lib.hid (HPG.out TF b _ _ _ H17.out HLL.out (show TmR _ _ TF (.agg #[.string TF.name, .string TF.sort, .slice ta TF.kids.length tc]) from ⟨ta, tc, rfl, (HRU.out.ext HX.out).weaken (fun k hk => Nat.lt_of_lt_of_le hk HX.out.size)⟩) (HTB.out _ H17.out) (by have := small_of HLTT.out; omega) (by have := HSZ.out; omega))
      rw [HGR.out TF b HFT.out HFB2.out HKT.out HKB2.out] at HP1
      obtain ⟨X, hX⟩ : ∃ X, gt (ixF ops) TF b = X := ⟨_, rfl⟩
      have HXX := Lib.hid hX
      rw [hX] at HP1
      clear hsub hok htm hX
      go_wp2_with fail
      refine (HP1.out).mono ?_
      rintro e w21 ⟨rfl, hw21⟩
      have H21 := Lib.hid (H17.out.trans hw21)
      have HG_21 := Lib.hid (hw21.heap HG_17.out (fun h => h))
      have HA_21 := Lib.hid (hw21.heap HA_17.out (fun h => h))
      have HB_21 := Lib.hid (hw21.heap HB_17.out (fun h => h))
      have HT_21 := Lib.hid (hw21.heap HT_17.out (fun h => h))
      clear hw21 o0 o1 p0 p1 p2 q0 q1 q2 t0 t1 t2
      have o0 := cellRow HG_21.out 0 (.slice sa g.1.length sc) rfl
      have o1 := cellRow HG_21.out 1 (.slice oa g.2.length oc) rfl
      have p0 := cellRow HA_21.out 0 (.string a.name) rfl
      have p1 := cellRow HA_21.out 1 (.string a.sort) rfl
      have p2 := cellRow HA_21.out 2 (.slice aa a.kids.length ac) rfl
      have q0 := cellRow HB_21.out 0 (.string b.name) rfl
      have q1 := cellRow HB_21.out 1 (.string b.sort) rfl
      have q2 := cellRow HB_21.out 2 (.slice ba b.kids.length bc) rfl
      have t0 := cellRow HT_21.out 0 (.string TF.name) rfl
      have t1 := cellRow HT_21.out 1 (.string TF.sort) rfl
      have t2 := cellRow HT_21.out 2 (.slice ta TF.kids.length tc) rfl
      clear HP1
      go_wp2_with fail
      refine (HRPX2.out _ H21.out).mono ?_
      rintro e w22 ⟨r, rfl, hr, hw22⟩
      have H22 := Lib.hid (H21.out.trans hw22)
      have HG_22 := Lib.hid (hw22.heap HG_21.out (fun h => h))
      have HA_22 := Lib.hid (hw22.heap HA_21.out (fun h => h))
      have HB_22 := Lib.hid (hw22.heap HB_21.out (fun h => h))
      have HT_22 := Lib.hid (hw22.heap HT_21.out (fun h => h))
      clear hw22 o0 o1 p0 p1 p2 q0 q1 q2 t0 t1 t2
      have o0 := cellRow HG_22.out 0 (.slice sa g.1.length sc) rfl
      have o1 := cellRow HG_22.out 1 (.slice oa g.2.length oc) rfl
      have p0 := cellRow HA_22.out 0 (.string a.name) rfl
      have p1 := cellRow HA_22.out 1 (.string a.sort) rfl
      have p2 := cellRow HA_22.out 2 (.slice aa a.kids.length ac) rfl
      have q0 := cellRow HB_22.out 0 (.string b.name) rfl
      have q1 := cellRow HB_22.out 1 (.string b.sort) rfl
      have q2 := cellRow HB_22.out 2 (.slice ba b.kids.length bc) rfl
      have t0 := cellRow HT_22.out 0 (.string TF.name) rfl
      have t1 := cellRow HT_22.out 1 (.string TF.sort) rfl
      have t2 := cellRow HT_22.out 2 (.slice ta TF.kids.length tc) rfl
      obtain ⟨WF, WE, hWF⟩ : ∃ x e, repF a pl b = (x, e) := ⟨_, _, rfl⟩
      rw [hWF] at hr ⊢
      have HRF := Lib.hid hWF
      dsimp only at hr ⊢
      clear hWF
      obtain ⟨xa, xc, hrv⟩ := hr.shape
      subst hrv
      have HRW22 := Lib.hid (hr.weaken (fun k hk => hk.2))
      clear hr
      have hZ := (Upd.refl (fun _ => False) w22).alloc (.cells #[.string WF.name, .string WF.sort, .slice xa WF.kids.length xc] 25)
      have HW_23 := Lib.hid (alloc0 w22 (.cells #[.string WF.name, .string WF.sort, .slice xa WF.kids.length xc] 25))
      have H23 := Lib.hid (H22.out.trans hZ)
      have HRW : Hid (TlR (fun k => k < (w22.alloc (.cells #[.string WF.name, .string WF.sort, .slice xa WF.kids.length xc] 25)).heap.size) (w22.alloc (.cells #[.string WF.name, .string WF.sort, .slice xa WF.kids.length xc] 25)) WF.kids (.slice xa WF.kids.length xc)) := Lib.hid ((HRW22.out.ext hZ).weaken (fun k hk => Nat.lt_of_lt_of_le hk hZ.size))
      have HG_23 := Lib.hid (hZ.heap HG_22.out (fun h => h))
      have HA_23 := Lib.hid (hZ.heap HA_22.out (fun h => h))
      have HB_23 := Lib.hid (hZ.heap HB_22.out (fun h => h))
      have HT_23 := Lib.hid (hZ.heap HT_22.out (fun h => h))
      clear hZ o0 o1 p0 p1 p2 q0 q1 q2 t0 t1 t2
      have o0 := cellRow HG_23.out 0 (.slice sa g.1.length sc) rfl
      have o1 := cellRow HG_23.out 1 (.slice oa g.2.length oc) rfl
      have p0 := cellRow HA_23.out 0 (.string a.name) rfl
      have p1 := cellRow HA_23.out 1 (.string a.sort) rfl
      have p2 := cellRow HA_23.out 2 (.slice aa a.kids.length ac) rfl
      have q0 := cellRow HB_23.out 0 (.string b.name) rfl
      have q1 := cellRow HB_23.out 1 (.string b.sort) rfl
      have q2 := cellRow HB_23.out 2 (.slice ba b.kids.length bc) rfl
      have t0 := cellRow HT_23.out 0 (.string TF.name) rfl
      have t1 := cellRow HT_23.out 1 (.string TF.sort) rfl
      have t2 := cellRow HT_23.out 2 (.slice ta TF.kids.length tc) rfl
      have x0 := cellRow HW_23.out 0 (.string WF.name) rfl
      have x1 := cellRow HW_23.out 1 (.string WF.sort) rfl
      have x2 := cellRow HW_23.out 2 (.slice xa WF.kids.length xc) rfl
      cases X
      case false =>
        go_wp2_with fail
        go_meet
        case rel => exact ⟨rfl, H23, HG_23, HA_23, HB_23⟩
      by_cases hWE : WE = 0
      case neg =>
        have e0 : (WE == 0) = false := beq_eq_false_iff_ne.2 hWE
        have e1 : decide (WE = 0) = false := decide_eq_false hWE
        go_wp2_with fail
        go_meet
        case rel => exact ⟨rfl, H23, HG_23, HA_23, HB_23⟩
      subst hWE
      have hrep : formed nmB WF = true ∧ (sortsT WF).isSome = true ∧ WF = putAt a (pl.map Int.toNat) b := by
        have h := HRF.out
        unfold repF at h
        rw [if_neg (by rw [HFA2.out, HFB2.out]; simp), HSUB.out] at h
        simp only at h
        by_cases h1 : formed nmB (putAt a (pl.map Int.toNat) b) = false
        · rw [if_pos h1] at h; simp at h
        rw [if_neg h1] at h
        by_cases h2 : (sortsT (putAt a (pl.map Int.toNat) b)).isSome = false
        · rw [if_pos h2] at h; simp at h
        rw [if_neg h2] at h
        simp only [Prod.mk.injEq] at h
        rw [← h.1]
        exact ⟨by simpa using h1, (by revert h2; cases (sortsT (putAt a (pl.map Int.toNat) b)).isSome <;> simp), rfl⟩
      have HFW : Hid (wf nmB WF = true) := Lib.hid (by unfold wf; rw [hrep.1, hrep.2.1]; rfl)
      have HKW : Hid (knowsP ops WF = true) := Lib.hid (by rw [hrep.2.2]; exact knows_putAt HKB2.out _ a HKA2.out HOK.out)
      have HGW : Hid (gt (ixF ops) a WF = true) := Lib.hid (by
        rw [hrep.2.2]
        exact gt_context (ixF ops) b TF (pl.map Int.toNat) a (wf_nop HFA2.out) (by rw [sub_of _ _ HOK.out, HTM.out]) HXX.out)
      have HLW := Lib.hid (fun W (hW : Ext (w22.alloc (.cells #[.string WF.name, .string WF.sort, .slice xa WF.kids.length xc] 25)) W) => large_x WF _ _ W ⟨xa, xc, rfl, HRW.out.ext hW⟩)
      dsimp only [tV] at HLW
      obtain ⟨LW, hLW⟩ : ∃ x, largeB WF = x := ⟨_, rfl⟩
      rw [hLW] at HLW
      clear hrep hLW
      go_wp2_with fail
      refine (HLW.out _ (Upd.refl _ _)).mono ?_
      rintro e w24 ⟨rfl, hw24⟩
      have H24 := Lib.hid (H23.out.trans hw24)
      have X24 := Lib.hid hw24
      have HG_24 := Lib.hid (hw24.heap HG_23.out (fun h => h))
      have HA_24 := Lib.hid (hw24.heap HA_23.out (fun h => h))
      have HB_24 := Lib.hid (hw24.heap HB_23.out (fun h => h))
      have HT_24 := Lib.hid (hw24.heap HT_23.out (fun h => h))
      have HW_24 := Lib.hid (hw24.heap HW_23.out (fun h => h))
      clear hw24 o0 o1 p0 p1 p2 q0 q1 q2 t0 t1 t2 x0 x1 x2
      have o0 := cellRow HG_24.out 0 (.slice sa g.1.length sc) rfl
      have o1 := cellRow HG_24.out 1 (.slice oa g.2.length oc) rfl
      have p0 := cellRow HA_24.out 0 (.string a.name) rfl
      have p1 := cellRow HA_24.out 1 (.string a.sort) rfl
      have p2 := cellRow HA_24.out 2 (.slice aa a.kids.length ac) rfl
      have q0 := cellRow HB_24.out 0 (.string b.name) rfl
      have q1 := cellRow HB_24.out 1 (.string b.sort) rfl
      have q2 := cellRow HB_24.out 2 (.slice ba b.kids.length bc) rfl
      have t0 := cellRow HT_24.out 0 (.string TF.name) rfl
      have t1 := cellRow HT_24.out 1 (.string TF.sort) rfl
      have t2 := cellRow HT_24.out 2 (.slice ta TF.kids.length tc) rfl
      have x0 := cellRow HW_24.out 0 (.string WF.name) rfl
      have x1 := cellRow HW_24.out 1 (.string WF.sort) rfl
      have x2 := cellRow HW_24.out 2 (.slice xa WF.kids.length xc) rfl
      clear HLW
      cases LW
      case true =>
        go_wp2_with fail
        all_goals go_ret
        all_goals exact ⟨rfl, H24.out⟩
      have HP2 := Lib.hid (HPG.out a WF _ _ _ H24.out HLL.out (HTA.out _ H24.out) (show TmR _ _ WF (.agg #[.string WF.name, .string WF.sort, .slice xa WF.kids.length xc]) from ⟨xa, xc, rfl, (HRW.out.ext X24.out).weaken (fun k hk => Nat.lt_of_lt_of_le hk X24.out.size)⟩) (by have := HSZ.out; omega) (wf_size HFW.out))
      rw [HGR.out a WF HFA2.out HFW.out HKA2.out HKW.out, HGW.out] at HP2
      go_wp2_with fail
      refine (HP2.out).mono ?_
      rintro e w25 ⟨rfl, hw25⟩
      have H25 := Lib.hid (H24.out.trans hw25)
      have HG_25 := Lib.hid (hw25.heap HG_24.out (fun h => h))
      have HA_25 := Lib.hid (hw25.heap HA_24.out (fun h => h))
      have HB_25 := Lib.hid (hw25.heap HB_24.out (fun h => h))
      have HT_25 := Lib.hid (hw25.heap HT_24.out (fun h => h))
      have HW_25 := Lib.hid (hw25.heap HW_24.out (fun h => h))
      clear hw25 o0 o1 p0 p1 p2 q0 q1 q2 t0 t1 t2 x0 x1 x2
      have o0 := cellRow HG_25.out 0 (.slice sa g.1.length sc) rfl
      have o1 := cellRow HG_25.out 1 (.slice oa g.2.length oc) rfl
      have p0 := cellRow HA_25.out 0 (.string a.name) rfl
      have p1 := cellRow HA_25.out 1 (.string a.sort) rfl
      have p2 := cellRow HA_25.out 2 (.slice aa a.kids.length ac) rfl
      have q0 := cellRow HB_25.out 0 (.string b.name) rfl
      have q1 := cellRow HB_25.out 1 (.string b.sort) rfl
      have q2 := cellRow HB_25.out 2 (.slice ba b.kids.length bc) rfl
      have t0 := cellRow HT_25.out 0 (.string TF.name) rfl
      have t1 := cellRow HT_25.out 1 (.string TF.sort) rfl
      have t2 := cellRow HT_25.out 2 (.slice ta TF.kids.length tc) rfl
      have x0 := cellRow HW_25.out 0 (.string WF.name) rfl
      have x1 := cellRow HW_25.out 1 (.string WF.sort) rfl
      have x2 := cellRow HW_25.out 2 (.slice xa WF.kids.length xc) rfl
      clear HP2
      go_wp2_with fail
      go_meet
      case rel => exact ⟨rfl, H25, HG_25, HA_25, HB_25⟩
    case rest =>
      obtain ⟨rfl, H20, HG_20, HA_20, HB_20⟩ := hcut
      clear HG_17 HA_17 HB_17 HT_17 H17 HX HRU HAF o0 o1 p0 p1 p2 q0 q1 q2 t0 t1 t2
      have o0 := cellRow HG_20.out 0 (.slice sa g.1.length sc) rfl
      have o1 := cellRow HG_20.out 1 (.slice oa g.2.length oc) rfl
      have p0 := cellRow HA_20.out 0 (.string a.name) rfl
      have p1 := cellRow HA_20.out 1 (.string a.sort) rfl
      have p2 := cellRow HA_20.out 2 (.slice aa a.kids.length ac) rfl
      have q0 := cellRow HB_20.out 0 (.string b.name) rfl
      have q1 := cellRow HB_20.out 1 (.string b.sort) rfl
      have q2 := cellRow HB_20.out 2 (.slice ba b.kids.length bc) rfl
      obtain ⟨V1, hV1⟩ : ∃ x, vsgB nmB g = x := ⟨_, rfl⟩
      obtain ⟨V2, hV2⟩ : ∃ x, validF g a = x := ⟨_, rfl⟩
      obtain ⟨V3, hV3⟩ : ∃ x, validF g b = x := ⟨_, rfl⟩
      rw [hV1] at HVS1
      rw [hV2] at HVA1
      rw [hV3] at HVB1
      have HV2 := Lib.hid hV2
      have HV3 := Lib.hid hV3
      clear hV1 hV2 hV3
      go_wp2_with fail
      refine (HVS1.out _ H20.out).mono ?_
      rintro e w30 ⟨rfl, hw30⟩
      have H30 := Lib.hid (H20.out.trans hw30)
      have HG_30 := Lib.hid (hw30.heap HG_20.out (fun h => h))
      have HA_30 := Lib.hid (hw30.heap HA_20.out (fun h => h))
      have HB_30 := Lib.hid (hw30.heap HB_20.out (fun h => h))
      clear hw30 o0 o1 p0 p1 p2 q0 q1 q2
      have o0 := cellRow HG_30.out 0 (.slice sa g.1.length sc) rfl
      have o1 := cellRow HG_30.out 1 (.slice oa g.2.length oc) rfl
      have p0 := cellRow HA_30.out 0 (.string a.name) rfl
      have p1 := cellRow HA_30.out 1 (.string a.sort) rfl
      have p2 := cellRow HA_30.out 2 (.slice aa a.kids.length ac) rfl
      have q0 := cellRow HB_30.out 0 (.string b.name) rfl
      have q1 := cellRow HB_30.out 1 (.string b.sort) rfl
      have q2 := cellRow HB_30.out 2 (.slice ba b.kids.length bc) rfl
      cases V1
      case false =>
        go_wp2_with fail
        all_goals go_ret
        all_goals exact ⟨rfl, H30.out⟩
      clear HVS1
      go_wp2_with fail
      refine (HVA1.out _ H30.out).mono ?_
      rintro e w31 ⟨rfl, hw31⟩
      have H31 := Lib.hid (H30.out.trans hw31)
      have HG_31 := Lib.hid (hw31.heap HG_30.out (fun h => h))
      have HA_31 := Lib.hid (hw31.heap HA_30.out (fun h => h))
      have HB_31 := Lib.hid (hw31.heap HB_30.out (fun h => h))
      clear hw31 o0 o1 p0 p1 p2 q0 q1 q2
      have o0 := cellRow HG_31.out 0 (.slice sa g.1.length sc) rfl
      have o1 := cellRow HG_31.out 1 (.slice oa g.2.length oc) rfl
      have p0 := cellRow HA_31.out 0 (.string a.name) rfl
      have p1 := cellRow HA_31.out 1 (.string a.sort) rfl
      have p2 := cellRow HA_31.out 2 (.slice aa a.kids.length ac) rfl
      have q0 := cellRow HB_31.out 0 (.string b.name) rfl
      have q1 := cellRow HB_31.out 1 (.string b.sort) rfl
      have q2 := cellRow HB_31.out 2 (.slice ba b.kids.length bc) rfl
      cases V2
      case false =>
        go_wp2_with fail
        all_goals go_ret
        all_goals exact ⟨rfl, H31.out⟩
      clear HVA1
      go_wp2_with fail
      refine (HVB1.out _ H31.out).mono ?_
      rintro e w32 ⟨rfl, hw32⟩
      have H32 := Lib.hid (H31.out.trans hw32)
      have HG_32 := Lib.hid (hw32.heap HG_31.out (fun h => h))
      have HA_32 := Lib.hid (hw32.heap HA_31.out (fun h => h))
      have HB_32 := Lib.hid (hw32.heap HB_31.out (fun h => h))
      clear hw32 o0 o1 p0 p1 p2 q0 q1 q2
      have o0 := cellRow HG_32.out 0 (.slice sa g.1.length sc) rfl
      have o1 := cellRow HG_32.out 1 (.slice oa g.2.length oc) rfl
      have p0 := cellRow HA_32.out 0 (.string a.name) rfl
      have p1 := cellRow HA_32.out 1 (.string a.sort) rfl
      have p2 := cellRow HA_32.out 2 (.slice aa a.kids.length ac) rfl
      have q0 := cellRow HB_32.out 0 (.string b.name) rfl
      have q1 := cellRow HB_32.out 1 (.string b.sort) rfl
      have q2 := cellRow HB_32.out 2 (.slice ba b.kids.length bc) rfl
      cases V3
      case false =>
        go_wp2_with fail
        all_goals go_ret
        all_goals exact ⟨rfl, H32.out⟩
      clear HVB1
      have HRA1 := Lib.hid (HRA.out HFA2.out _ H32.out)
      have HNVa : Hid (varsT a = [] → ∀ y ∈ sbts a, y.sort = nul) := Lib.hid (no_vars HFA2.out)
      obtain ⟨Na, hNa⟩ : ∃ l, varsT a = l := ⟨_, rfl⟩
      rw [hNa] at HRA1 HNVa
      clear hNa
      go_wp2_with fail
      refine (HRA1.out).mono ?_
      rintro e w33 ⟨r, rfl, hr, hw33⟩
      have H33 := Lib.hid (H32.out.trans hw33)
      have HG_33 := Lib.hid (hw33.heap HG_32.out (fun h => h))
      have HA_33 := Lib.hid (hw33.heap HA_32.out (fun h => h))
      have HB_33 := Lib.hid (hw33.heap HB_32.out (fun h => h))
      clear hw33 o0 o1 p0 p1 p2 q0 q1 q2
      have o0 := cellRow HG_33.out 0 (.slice sa g.1.length sc) rfl
      have o1 := cellRow HG_33.out 1 (.slice oa g.2.length oc) rfl
      have p0 := cellRow HA_33.out 0 (.string a.name) rfl
      have p1 := cellRow HA_33.out 1 (.string a.sort) rfl
      have p2 := cellRow HA_33.out 2 (.slice aa a.kids.length ac) rfl
      have q0 := cellRow HB_33.out 0 (.string b.name) rfl
      have q1 := cellRow HB_33.out 1 (.string b.sort) rfl
      have q2 := cellRow HB_33.out 2 (.slice ba b.kids.length bc) rfl
      obtain ⟨raa, rca, hrv⟩ := hr.shape
      subst hrv
      clear hr HRA HRA1
      by_cases hna : 0 < Na.length
      · have y1 : (0 : Int) < (Na.length : Int) := by omega
        have y1' : decide ((0 : Int) < (Na.length : Int)) = true := decide_eq_true y1
        have y2' : decide (0 < Na.length) = true := decide_eq_true hna
        go_wp2_with fail
        all_goals go_ret
        all_goals exact ⟨rfl, H33.out⟩
      have ya : ¬ (0 : Int) < (Na.length : Int) := by omega
      have ya' : decide ((0 : Int) < (Na.length : Int)) = false := decide_eq_false ya
      have HNOa : Hid (∀ y ∈ sbts a, y.sort = nul) := Lib.hid (HNVa.out (List.eq_nil_of_length_eq_zero (by omega)))
      have va : ¬ 0 < Na.length := hna
      have va' : decide (0 < Na.length) = false := decide_eq_false hna
      clear HNVa hna
      have HRB1 := Lib.hid (HRB.out HFB2.out _ H33.out)
      have HNVb : Hid (varsT b = [] → ∀ y ∈ sbts b, y.sort = nul) := Lib.hid (no_vars HFB2.out)
      obtain ⟨Nb, hNb⟩ : ∃ l, varsT b = l := ⟨_, rfl⟩
      rw [hNb] at HRB1 HNVb
      clear hNb
      go_wp2_with fail
      refine (HRB1.out).mono ?_
      rintro e w34 ⟨r, rfl, hr, hw34⟩
      have H34 := Lib.hid (H33.out.trans hw34)
      have HG_34 := Lib.hid (hw34.heap HG_33.out (fun h => h))
      have HA_34 := Lib.hid (hw34.heap HA_33.out (fun h => h))
      have HB_34 := Lib.hid (hw34.heap HB_33.out (fun h => h))
      clear hw34 o0 o1 p0 p1 p2 q0 q1 q2
      have o0 := cellRow HG_34.out 0 (.slice sa g.1.length sc) rfl
      have o1 := cellRow HG_34.out 1 (.slice oa g.2.length oc) rfl
      have p0 := cellRow HA_34.out 0 (.string a.name) rfl
      have p1 := cellRow HA_34.out 1 (.string a.sort) rfl
      have p2 := cellRow HA_34.out 2 (.slice aa a.kids.length ac) rfl
      have q0 := cellRow HB_34.out 0 (.string b.name) rfl
      have q1 := cellRow HB_34.out 1 (.string b.sort) rfl
      have q2 := cellRow HB_34.out 2 (.slice ba b.kids.length bc) rfl
      obtain ⟨rab, rcb, hrv⟩ := hr.shape
      subst hrv
      clear hr HRB HRB1
      by_cases hnb : 0 < Nb.length
      · have y1 : (0 : Int) < (Nb.length : Int) := by omega
        have y1' : decide ((0 : Int) < (Nb.length : Int)) = true := decide_eq_true y1
        have y2' : decide (0 < Nb.length) = true := decide_eq_true hnb
        go_wp2_with fail
        all_goals go_ret
        all_goals exact ⟨rfl, H34.out⟩
      have yb : ¬ (0 : Int) < (Nb.length : Int) := by omega
      have yb' : decide ((0 : Int) < (Nb.length : Int)) = false := decide_eq_false yb
      have HNOb : Hid (∀ y ∈ sbts b, y.sort = nul) := Lib.hid (HNVb.out (List.eq_nil_of_length_eq_zero (by omega)))
      have vb : ¬ 0 < Nb.length := hnb
      have vb' : decide (0 < Nb.length) = false := decide_eq_false hnb
      clear HNVb hnb
      have HP1 := Lib.hid (fun W (hW : Ext w W) => HPG.out a b _ _ W hW HLL.out (HTA.out _ hW) (HTB.out _ hW) (by have := HSZ.out; omega) (by have := HSZ.out; omega))
      have HP2 := Lib.hid (fun W (hW : Ext w W) => HPG.out b a _ _ W hW HLL.out (HTB.out _ hW) (HTA.out _ hW) (by have := HSZ.out; omega) (by have := HSZ.out; omega))
      rw [HGR.out a b HFA2.out HFB2.out HKA2.out HKB2.out] at HP1
      rw [HGR.out b a HFB2.out HFA2.out HKB2.out HKA2.out] at HP2
      have HSM1 := Lib.hid (HSM.out HSZ.out.1)
      have hgr : ∀ z, (∀ y ∈ sbts z, y.sort = nul) → wf nmB z = true → validF g z = true → knowsP ops z = true → Grd (ixF ops) (fun s => (dg g.2 (dixN g.2 s)).2.1.length) (fun s => s ∈ ops) z := fun z h1 h2 h3 h4 =>
        ⟨h1, fun y hy => (wrong_ar g z (wf_nop h2) (validF_iff.1 h3).2.2 y hy (h1 y hy)).1, fun y hy => knowsP_iff.1 h4 _ (mem_opN.2 ⟨y, hy, h1 y hy, rfl⟩)⟩
      have htot : a ≠ b → gt (ixF ops) a b = true ∨ gt (ixF ops) b a = true := fun hne => gt_total (K := fun s => s ∈ ops) (fun s s' h1 h2 h3 => ixF_inj h1 h2 h3) _ a b (Nat.le_refl _) (hgr a HNOa.out HFA2.out HV2.out HKA2.out) (hgr b HNOb.out HFB2.out HV3.out HKB2.out) hne
      have hirr : a = b → gt (ixF ops) a b = false ∧ gt (ixF ops) b a = false := fun e => by rw [e, gt_irrefl]; exact ⟨rfl, rfl⟩
      have hasy : gt (ixF ops) a b = true → gt (ixF ops) b a = false := fun h => gt_asymm (ixF ops) h
      obtain ⟨X, hX⟩ : ∃ X, gt (ixF ops) a b = X := ⟨_, rfl⟩
      obtain ⟨Y, hY⟩ : ∃ Y, gt (ixF ops) b a = Y := ⟨_, rfl⟩
      obtain ⟨E, hE⟩ : ∃ E, decide (a = b) = E := ⟨_, rfl⟩
      rw [hX, hY] at htot hirr
      rw [hX, hY] at hasy
      rw [hX] at HP1
      rw [hY] at HP2
      rw [hE] at HSM1
      have hcase : (X = false ∧ Y = false ∧ E = true) ∨ (X = true ∧ Y = false ∧ E = false) ∨ (X = false ∧ Y = true ∧ E = false) := by
        cases E
        · have hne := of_decide_eq_false hE
          rcases htot hne with h | h
          · exact .inr (.inl ⟨h, hasy h, rfl⟩)
          · refine .inr (.inr ⟨?_, h, rfl⟩)
            cases X
            · rfl
            · rw [hasy rfl] at h; cases h
        · have h := hirr (of_decide_eq_true hE)
          exact .inl ⟨h.1, h.2, rfl⟩
      clear hgr htot hirr hasy hX hY hE
      rcases hcase with ⟨rfl, rfl, rfl⟩ | ⟨rfl, rfl, rfl⟩ | ⟨rfl, rfl, rfl⟩
      all_goals
        go_wp2_with fail
        refine (HP1.out _ H34.out).mono ?_
        rintro e w40 ⟨rfl, hw40⟩
        have H40 := Lib.hid (H34.out.trans hw40)
        have HG_40 := Lib.hid (hw40.heap HG_34.out (fun h => h))
        have HA_40 := Lib.hid (hw40.heap HA_34.out (fun h => h))
        have HB_40 := Lib.hid (hw40.heap HB_34.out (fun h => h))
        clear hw40 o0 o1 p0 p1 p2 q0 q1 q2
        have o0 := cellRow HG_40.out 0 (.slice sa g.1.length sc) rfl
        have o1 := cellRow HG_40.out 1 (.slice oa g.2.length oc) rfl
        have p0 := cellRow HA_40.out 0 (.string a.name) rfl
        have p1 := cellRow HA_40.out 1 (.string a.sort) rfl
        have p2 := cellRow HA_40.out 2 (.slice aa a.kids.length ac) rfl
        have q0 := cellRow HB_40.out 0 (.string b.name) rfl
        have q1 := cellRow HB_40.out 1 (.string b.sort) rfl
        have q2 := cellRow HB_40.out 2 (.slice ba b.kids.length bc) rfl
        go_wp2_with fail
        refine (HP2.out _ H40.out).mono ?_
        rintro e w41 ⟨rfl, hw41⟩
        have H41 := Lib.hid (H40.out.trans hw41)
        have HG_41 := Lib.hid (hw41.heap HG_40.out (fun h => h))
        have HA_41 := Lib.hid (hw41.heap HA_40.out (fun h => h))
        have HB_41 := Lib.hid (hw41.heap HB_40.out (fun h => h))
        clear hw41 o0 o1 p0 p1 p2 q0 q1 q2
        have o0 := cellRow HG_41.out 0 (.slice sa g.1.length sc) rfl
        have o1 := cellRow HG_41.out 1 (.slice oa g.2.length oc) rfl
        have p0 := cellRow HA_41.out 0 (.string a.name) rfl
        have p1 := cellRow HA_41.out 1 (.string a.sort) rfl
        have p2 := cellRow HA_41.out 2 (.slice aa a.kids.length ac) rfl
        have q0 := cellRow HB_41.out 0 (.string b.name) rfl
        have q1 := cellRow HB_41.out 1 (.string b.sort) rfl
        have q2 := cellRow HB_41.out 2 (.slice ba b.kids.length bc) rfl
        go_wp2_with fail
        refine (HSM1.out _ H41.out).mono ?_
        rintro e w42 ⟨rfl, hw42⟩
        have H42 := Lib.hid (H41.out.trans hw42)
        have HG_42 := Lib.hid (hw42.heap HG_41.out (fun h => h))
        have HA_42 := Lib.hid (hw42.heap HA_41.out (fun h => h))
        have HB_42 := Lib.hid (hw42.heap HB_41.out (fun h => h))
        clear hw42 o0 o1 p0 p1 p2 q0 q1 q2
        have o0 := cellRow HG_42.out 0 (.slice sa g.1.length sc) rfl
        have o1 := cellRow HG_42.out 1 (.slice oa g.2.length oc) rfl
        have p0 := cellRow HA_42.out 0 (.string a.name) rfl
        have p1 := cellRow HA_42.out 1 (.string a.sort) rfl
        have p2 := cellRow HA_42.out 2 (.slice aa a.kids.length ac) rfl
        have q0 := cellRow HB_42.out 0 (.string b.name) rfl
        have q1 := cellRow HB_42.out 1 (.string b.sort) rfl
        have q2 := cellRow HB_42.out 2 (.slice ba b.kids.length bc) rfl
        clear HP1 HP2 HSM1
        go_wp2_with fail
        all_goals go_ret
        all_goals (first | exact ⟨rfl, H42.out⟩ | exact ⟨by simp, H42.out⟩)

end Go.Proofs.YtiimccogojkldaaGreatDoor

/- The law PathorderMonotone: the row, and the tied card. For every input the call returns true, and each argument reads as it did. -/
namespace Go.Proofs.YtiimccogojkldaaGreatDoor
open Go.ChangeShapes Go.WideShapes Go.ChangeAt Go.RowKit Go.Hw
set_option linter.unusedVariables false
set_option linter.unusedSimpArgs false
set_option maxRecDepth 100000 in
theorem pathorderMonotone_lifted (os : Os) (started : os.Started) (H : Type) (enc : TypeId × Value → H) :
    ReturnsInHanded {} Tryz.checked os 7 .any (fun w args => (Rows.pathorderMonotoneSpec.pre enc Tryz.prog Tryz.f7 [] false w args ∧ laidMetH Tryz.prog tabsL w) ∧ sizedMet enc Tryz.prog Tryz.f7 (OpenSpec.ofChange Rows.pathorderMonotoneSpec) false w args)
      (Rows.pathorderMonotoneSpec.post enc Tryz.prog Tryz.f7 false true false false) := by
  refine returnsInHanded_of_change_and (C := Tryz.checked) (X := fun w _ => laidMetH Tryz.prog tabsL w) (fun _ _ _ hh h => h.of_heap hh) Tryz.own started (by kernel_rfl) Tryz.func7
    (ChangeSpec.witness_shaped (enc := enc) (C := Tryz.checked) (os := os) (X := fun w _ => laidMetH Tryz.prog tabsL w) false (World.laidAll Tryz.prog os tabsL) #[.agg #[.slice none 0 0, .slice none 0 0], .slice none 0 0, .agg #[.string ⟨#[]⟩, .string ⟨#[]⟩, .slice none 0 0], .agg #[.string ⟨#[]⟩, .string ⟨#[]⟩, .slice none 0 0], .slice none 0 0] 8 (World.laidAll_os _ _ _)
      (World.shaped_of_ZipB (by kernel_rfl) (by kernel_rfl)) (by kernel_rfl) (by kernel_rfl) (by kernel_rfl)
      (by rw [MakeChecks.laidMetH_plain _ _ _ (by kernel_rfl)]; exact laidMet_laidAll _ (by kernel_rfl) (by kernel_rfl))) ?_
  intro W base args ds gs before hval0 hW hcnd hLgt hL _
  have hval : ∀ (j : Nat) t v, Tryz.f7.params[j]? = some t → args[j]? = some v → Value.okWide Tryz.prog W .any base t v := hval0
  have hW' := hW
  obtain ⟨p, q, hA0, hV, rfl, hfz, hnd⟩ := hW
  have hA : DataW.TrodAll enc Tryz.prog W 0 (fun _ => true) true Tryz.f7.params.toList args.toList ds p := hA0
  rw [Tryz.params7] at hA hval
  obtain ⟨v0, vs0, d0, ds0, p0, q0, hargs, rfl, rfl, h0, r0⟩ := trodAll_cons hA
  obtain ⟨v1, vs1, d1, ds1, p1, q1, rfl, rfl, rfl, h1, r1⟩ := trodAll_cons r0
  obtain ⟨v2, vs2, d2, ds2, p2, q2, rfl, rfl, rfl, h2, r2⟩ := trodAll_cons r1
  obtain ⟨v3, vs3, d3, ds3, p3, q3, rfl, rfl, rfl, h3, r3⟩ := trodAll_cons r2
  obtain ⟨v4, vs4, d4, ds4, p4, q4, rfl, rfl, rfl, h4, r4⟩ := trodAll_cons r3
  obtain ⟨rfl, rfl, rfl⟩ := trodAll_nil r4
  obtain rfl : args = #[v0, v1, v2, v3, v4] := by cases args; simp_all
  obtain ⟨rfl, rfl⟩ := trodVars_none hV
  simp only [List.append_nil] at hW'
  have hlt : ∀ x ∈ p0 ++ (p1 ++ (p2 ++ (p3 ++ p4))), x.block < W.heap.size := fun x hx => by simpa using hW'.lt x hx
  have k0 : ∀ (W' : World), Below W.heap.size W W' → DataW.Trod enc Tryz.prog W' 0 (fun b => decide (b < W.heap.size)) true 58 v0 d0 p0 :=
    fun W' hn => Below.trod Tryz.laidOut (by kernel_rfl) (of_decide_eq_true (by kernel_rfl)) h0 hn (fun x hx => hlt x (by simp [hx]))
  have k1 : ∀ (W' : World), Below W.heap.size W W' → DataW.Trod enc Tryz.prog W' 0 (fun b => decide (b < W.heap.size)) true 22 v1 d1 p1 :=
    fun W' hn => Below.trod Tryz.laidOut (by kernel_rfl) (of_decide_eq_true (by kernel_rfl)) h1 hn (fun x hx => hlt x (by simp [hx]))
  have k2 : ∀ (W' : World), Below W.heap.size W W' → DataW.Trod enc Tryz.prog W' 0 (fun b => decide (b < W.heap.size)) true 25 v2 d2 p2 :=
    fun W' hn => Below.trod Tryz.laidOut (by kernel_rfl) (of_decide_eq_true (by kernel_rfl)) h2 hn (fun x hx => hlt x (by simp [hx]))
  have k3 : ∀ (W' : World), Below W.heap.size W W' → DataW.Trod enc Tryz.prog W' 0 (fun b => decide (b < W.heap.size)) true 25 v3 d3 p3 :=
    fun W' hn => Below.trod Tryz.laidOut (by kernel_rfl) (of_decide_eq_true (by kernel_rfl)) h3 hn (fun x hx => hlt x (by simp [hx]))
  have k4 : ∀ (W' : World), Below W.heap.size W W' → DataW.Trod enc Tryz.prog W' 0 (fun b => decide (b < W.heap.size)) true 59 v4 d4 p4 :=
    fun W' hn => Below.trod Tryz.laidOut (by kernel_rfl) (of_decide_eq_true (by kernel_rfl)) h4 hn (fun x hx => hlt x (by simp [hx]))
  obtain ⟨g0, hg0⟩ := open_sg (hval 0 58 v0 rfl rfl) h0
  obtain ⟨ops1, hs1, hm1⟩ := open_strs h1 (okWide_slice Tryz.underlying22 (hval 1 22 v1 rfl rfl))
  obtain ⟨t2, ht2⟩ := open_tm (hval 2 25 v2 rfl rfl) h2
  obtain ⟨t3, ht3⟩ := open_tm (hval 3 25 v3 rfl rfl) h3
  obtain ⟨pl4, hp4, hm4, hb4⟩ := open_ints0 h4 (okWide_slice Tryz.underlying59 (hval 4 59 v4 rfl rfl))
  have HT := tab_of_laid hL
  have HA := asc_of_laid hL
  clear hA0 hval0
  refine (mono_law g0 ops1 t2 t3 pl4 v0 v1 v2 v3 v4 W hg0 hs1 ht2 ht3 hp4 HA HT).mono fun e W' ⟨he, hx⟩ => ?_
  subst he
  have hn := Ext.below hx
  refine ⟨_, rfl, _, _, _, [], p0 ++ (p1 ++ (p2 ++ (p3 ++ (p4 ++ [])))), [], hW', ?_, ?_, rfl, hn.frame _, fun h => by cases h⟩
  · exact trodAll_cons_mk (shut_bool Tryz.underlying4 true) trodAll_mk0
  · exact trodAll_cons_mk (k0 _ hn) (trodAll_cons_mk (k1 _ hn) (trodAll_cons_mk (k2 _ hn) (trodAll_cons_mk (k3 _ hn) (trodAll_cons_mk (k4 _ hn) trodAll_mk0))))

theorem pathorderMonotone_row_holds : Rows.PathorderMonotoneSaid :=
  OpenClaim.holds_of_wide 7 Tryz.f7 rfl rfl rfl rfl rfl rfl rfl ⟨rfl, rfl, rfl, rfl, rfl⟩ rfl rfl rfl rfl rfl (by kernel_rfl) Tryz.func7 (by kernel_rfl)
    (of_decide_eq_true (by kernel_rfl)) (by unfold Func.isWrapper; first | (rw [if_pos (by decide +kernel)]; kernel_rfl) | (rw [if_neg (by decide +kernel)]; exact ⟨rfl, rfl⟩))
    (fun os started H enc _ => pathorderMonotone_lifted os started H enc)
theorem pathorderMonotone_holds : Rows.PathorderMonotoneCardSaid :=
  Claim7.holds_tied_plain_at .later [] [.data, .data, .data, .listed, .data] true (true, "bac6dac459e8299fc4ebf66e6e4987433add47040902b3fb521380f412e52315") false pathorderMonotone_row_holds (fun _ h => by cases h) (by kernel_rfl) (fun _ h => by cases h) pathorderMonotone_row_tie rfl ⟨rfl, rfl⟩ (by kernel_rfl) rfl
    (fun f fn hf hfn => by
      obtain rfl : f = 7 := Option.some.inj ((show Tryz.prog.funcNamed "heartwood/heartwoodlaw08.PathorderMonotone" = some 7 by kernel_rfl).symm.trans hf) |>.symm
      obtain rfl : fn = Tryz.f7 := (Option.some.inj (Tryz.func7.symm.trans hfn)).symm
      exact ⟨by kernel_rfl, fun j t ht => by
        rw [Tryz.params7] at ht
        have hm : t ∈ [58, 22, 25, 25, 59] := by simpa using Array.mem_of_getElem? ht
        have hall : ([58, 22, 25, 25, 59].all fun u => !Tryz.prog.wantsStandIn u) = true := by kernel_rfl
        exact (show Tryz.prog.wantsStandIn t = false by simpa using List.all_eq_true.1 hall t hm)⟩)
    (by kernel_rfl)
#print axioms pathorderMonotone_holds
end Go.Proofs.YtiimccogojkldaaGreatDoor
