/- The texts N42 N43 N45 N46 N47, one behind the other. -/
import Derived.Test.YtlkcjmaiahnodaaGreatDoorYAO
import Derived.Test.YtlkcjmaiahnodaaGreatDoorYAM
import Derived.Test.YtlkcjmaiahnodaaGreatDoorYAF
import Derived.Test.YtlkcjmaiahnodaaGreatDoorYAL
/- Put, of the reference. -/
namespace Go.Proofs.YtlkcjmaiahnodaaGreatDoor
open Go.RowKit Go.Hw Go
set_option linter.unusedVariables false
set_option linter.unusedSimpArgs false

open Tm Go.Sort Go.Proofs Go.ChangeMaps
def PutP (z : Tm) (d left : Nat) (q : Tm) (r : Int) (v : Value) (w w' : World) : Prop :=
  ((z.size ≤ left ∧ d + z.depth ≤ 61) → q = z ∧ r = (left : Int) - (z.size : Int) ∧ ∃ B, TlO 24 w' B q.kids v ∧ ∀ j, B j → w.heap.size ≤ j ∧ j < w'.heap.size) ∧ (¬ (z.size ≤ left ∧ d + z.depth ≤ 61) → r < 0)
theorem PutP.no {z : Tm} {d left : Nat} {q : Tm} {r : Int} {v : Value} {w w' : World} (h : ¬ (z.size ≤ left ∧ d + z.depth ≤ 61)) (hr : r < 0) : PutP z d left q r v w w' := ⟨fun h2 => absurd h2 h, fun _ => hr⟩
theorem PutP.yes {z : Tm} {d left : Nat} {q : Tm} {r : Int} {v : Value} {w w' : World} (h1 : q = z) (h2 : r = (left : Int) - (z.size : Int)) (hn : z.size ≤ left → d + z.depth ≤ 61) (h3 : ∃ B, TlO 24 w' B q.kids v ∧ ∀ j, B j → w.heap.size ≤ j ∧ j < w'.heap.size) : PutP z d left q r v w w' := ⟨fun _ => ⟨h1, h2, h3⟩, fun h => by
  by_cases h4 : z.size ≤ left
  · exact absurd ⟨h4, hn h4⟩ h
  · omega⟩
theorem size_pos' (t : Tm) : 1 ≤ t.size := by rw [size_eq]; omega
theorem depth_pos' (t : Tm) : 1 ≤ t.depth := by rw [depth_eq]; omega
theorem depths_take_le (L : List Tm) (k : Nat) : depths (L.take k) ≤ depths L := by
  have h := depths_append (L.take k) (L.drop k)
  rw [List.take_append_drop] at h
  omega
set_option maxRecDepth 100000 in
set_option maxHeartbeats 2000000 in
theorem put05_x (Bs : List Bd) (vB : Value) (RB SB : Nat → Prop) (w0 : World) (HBB : Hid (BnR RB SB w0 vB Bs)) (HSB : Hid (∀ k, SB k → k < w0.heap.size)) (HBL : Hid (Bs.length ≤ 1000000)) (HSQ : Hid (∀ b ∈ Bs, b.2.2.size ≤ 100000)) :
    ∀ (t : Tm) (v : Value) (S : Nat → Prop) (w : World) (d left : Nat), Ext w0 w → TmR S w t v → (∀ k, S k → k < w.heap.size) → t.size ≤ 100000 → NoP t → d ≤ 61 → left ≤ 1000 →
    Calls Tryz.prog 90 #[vB, v, .int .i64 (d : Int), .int .i64 (left : Int)] w fun e w' => ∃ (q : Tm) (ra : Option Addr) (rc : Nat) (r : Int), e = .returned (.tuple #[.agg #[.string q.name, .string q.sort, .slice ra q.kids.length rc], .int .i64 r]) ∧ PutP (sbB Bs t) d left q r (.slice ra q.kids.length rc) w w' ∧ Ext w w' := by
  refine Tm.ind (fun n s L ih => ?_)
  intro v S w d left hw0 hT hS hsz hnp hd hleft
  obtain ⟨va, vc, hvB⟩ := HBB.out.shape
  subst hvB
  obtain ⟨Z, hZZ⟩ : ∃ Z, sbB Bs (.mk n s L) = Z := ⟨_, rfl⟩
  rw [hZZ]
  have HZZ := Lib.hid hZZ
  clear hZZ
  obtain ⟨a, cap, rfl, hT⟩ := hT
  dsimp only [tV, Tm.name, Tm.sort, Tm.kids] at hT
  show Calls _ _ #[_, .agg #[.string n, .string s, .slice a L.length cap], _, _] w _
  have HTL := Lib.hid hT
  have HIH := Lib.hid ih
  have HSS := Lib.hid hS
  have HNP := Lib.hid hnp
  have HW0 := Lib.hid hw0
  have hszL : sizes L + 1 ≤ 100000 := by rw [size_eq] at hsz; simp only [Tm.kids] at hsz; omega
  have HSL := Lib.hid hszL
  have hlL : L.length ≤ 100000 := by have h1 := length_le_sizes L; omega
  have hZ := ((Upd.refl (fun _ => False) w).alloc (.cells #[.string n, .string s, .slice a L.length cap] 24)).alloc (.cells #[.string ⟨#[]⟩, .string ⟨#[]⟩, .slice none 0 0] 24)
  have HB2 := Lib.hid (allocOld (alloc0 w (.cells #[.string n, .string s, .slice a L.length cap] 24)) (.cells #[.string ⟨#[]⟩, .string ⟨#[]⟩, .slice none 0 0] 24))
  have HB3 := Lib.hid (alloc_at (w.alloc (.cells #[.string n, .string s, .slice a L.length cap] 24)) (.cells #[.string ⟨#[]⟩, .string ⟨#[]⟩, .slice none 0 0] 24) (n := w.heap.size + 1) (by simp))
  have hs1 : ((w.alloc (.cells #[.string n, .string s, .slice a L.length cap] 24)).alloc (.cells #[.string ⟨#[]⟩, .string ⟨#[]⟩, .slice none 0 0] 24)).heap.size = w.heap.size + 2 := by simp
  have HS1 := Lib.hid hs1
  have HZ := Lib.hid hZ
  have HFI := Lib.hid (find05_x Bs _ n RB SB ((w.alloc (.cells #[.string n, .string s, .slice a L.length cap] 24)).alloc (.cells #[.string ⟨#[]⟩, .string ⟨#[]⟩, .slice none 0 0] 24)) (HBB.out.ext (hw0.trans hZ)) HBL.out)
  have t1 := emp_dec s
  have hbl := HBL.out
  clear ih hT hS hsz hszL hZ hs1 hw0 hnp
  go_enter Tryz.func90, Tryz.ntmps90
  go_upto_region 1 with fail
  generalize ((w.alloc (.cells #[.string n, .string s, .slice a L.length cap] 24)).alloc (.cells #[.string ⟨#[]⟩, .string ⟨#[]⟩, .slice none 0 0] 24)) = w1 at *
  have x0 := cellRow HB2.out 0 (.string n) rfl
  have x1 := cellRow HB2.out 1 (.string s) rfl
  have x2 := cellRow HB2.out 2 (.slice a L.length cap) rfl
  have hZof : (s = nul ∨ L = []) → (s ≠ nul → bget Bs n = none) → Z = .mk n s (L.map (sbB Bs)) := fun h1 h2 => by
    rw [← HZZ.out]
    show sbT (bsu Bs) (.mk n s L) = _
    by_cases hs : s = nul
    · rw [hs, sbT_opn]; rfl
    · rw [sbT_var _ hs L, bsu_none (h2 hs), h1.resolve_left hs]; rfl
  have HZO := Lib.hid hZof
  clear hZof
  by_cases hs0 : s = nul
  rotate_left
  · rw [decide_eq_false hs0] at t1
    cases hF : (bget Bs n).isSome with
    | true =>
      obtain ⟨m, hlm, hfx, hbg, _⟩ := fixS41 (n := n) hF
      have hZx : Z = (Go.Hw.bg Bs m).2.2 := by rw [← HZZ.out]; show sbT (bsu Bs) (.mk n s L) = _; rw [sbT_var _ hs0 L, bsu_some hbg]
      rw [hfx] at HFI
      obtain ⟨gb, ob, hgb, _, hatb⟩ := (HBB.out.ext (HW0.out.trans HZ.out)).at_ (by omega)
      subst hgb
      obtain ⟨xa, xc, _, _, p2, p3, p4, hkid⟩ := hatb _ hlm
      have y0 : (0 : Int) ≤ (m : Int) := by omega
      have y1 : (m : Int) < (Bs.length : Int) := by omega
      have y2 : decide ((0 : Int) ≤ (m : Int)) = true := decide_eq_true y0
      have hq1 := HSQ.out _ (bg_mem hlm)
      obtain ⟨x, hx⟩ : ∃ x, (Go.Hw.bg Bs m).2.2 = x := ⟨_, rfl⟩
      rw [hx] at p2 p3 p4 hkid hq1 hZx
      clear hx HZZ HZO
      have hZx := hZx.symm
      subst hZx
      have HK := Lib.hid hkid
      have hq2 := Nat.le_trans (depth_le_size x) hq1
      have hq3 := depth_pos' x
      have HRS := Lib.hid (fun W (hW : Ext w1 W) => rSize_x x (tV x (.slice xa x.kids.length xc)) SB W ⟨xa, xc, rfl, HK.out.ext hW⟩ (by omega))
      have HRD := Lib.hid (fun W (hW : Ext w1 W) => rDepth_x x (tV x (.slice xa x.kids.length xc)) SB W ⟨xa, xc, rfl, HK.out.ext hW⟩ (by omega))
      have HCP := Lib.hid (fun W (hW : Ext w1 W) => cop05_x x (tV x (.slice xa x.kids.length xc)) SB W ⟨xa, xc, rfl, HK.out.ext hW⟩ (fun k hk => Nat.lt_of_lt_of_le (HSB.out k hk) ((HW0.out.trans HZ.out).trans hW).size) hq1)
      dsimp only [tV] at HRS HRD HCP
      obtain ⟨XS, hXS⟩ : ∃ X, x.size = X := ⟨_, rfl⟩
      obtain ⟨XD, hXD⟩ : ∃ X, x.depth = X := ⟨_, rfl⟩
      have HXX := Lib.hid (And.intro hXS hXD)
      rw [hXS] at HRS hq1
      rw [hXD] at HRD hq2 hq3
      clear hatb hkid hbg hfx hF hs0 hXS hXD
      go_wp2_with fail
      refine HFI.out.mono ?_
      rintro e w4 ⟨rfl, hw4⟩
      have hw4 := hw4.symm
      subst hw4
      clear HFI
      go_wp2_with fail
      refine (HRS.out _ (Upd.refl _ _)).mono ?_
      rintro e w5 ⟨rfl, hw5⟩
      have r2 := hw5.cell p2 (fun h => h)
      have r3 := hw5.cell p3 (fun h => h)
      have r4 := hw5.cell p4 (fun h => h)
      have HW5 := Lib.hid hw5
      have HB35 := Lib.hid (hw5.heap HB3.out (fun h => h))
      clear hw5 HRS p2 p3 p4 x0 x1 x2
      by_cases hdd : 61 < d + XD
      · have t5 : decide ((60 : Int) < (d : Int) + (XD : Int) - 1) = true := decide_eq_true (by omega)
        have t5' : (60 : Int) < (d : Int) + (XD : Int) - 1 := by omega
        go_wp2_with fail
        refine (HRD.out _ HW5.out).mono ?_
        rintro e w6 ⟨rfl, hw6⟩
        have HE6 := Lib.hid (HZ.out.trans (HW5.out.trans hw6))
        have HB36 := Lib.hid (hw6.heap HB35.out (fun h => h))
        have hno : ¬ (x.size ≤ left ∧ d + x.depth ≤ 61) := fun h => by have := HXX.out; omega
        clear hw6 HRD HCP r2 r3 r4
        have f2 := fun i => frozenRow HB36.out i
        have d0 := cellRow HB36.out 0 (.string ⟨#[]⟩) rfl
        have d1 := cellRow HB36.out 1 (.string ⟨#[]⟩) rfl
        have d2 := cellRow HB36.out 2 (.slice none 0 0) rfl
        go_wp2_with fail
        have hr3 := st3_heap HB36.out (.string ⟨#[]⟩) (.string ⟨#[]⟩) (.slice none 0 0)
        have hu := st3_upd' w6 (w.heap.size + 1) (.string ⟨#[]⟩) (.string ⟨#[]⟩) (.slice none 0 0)
        have e0 := cellRow hr3 0 _ rfl
        have e1 := cellRow hr3 1 _ rfl
        have e2 := cellRow hr3 2 _ rfl
        have hue := HE6.out.trans' hu (fun j hj e => by omega)
        refine bodyPost_ret (v := .tuple #[.agg #[.string ⟨#[]⟩, .string ⟨#[]⟩, .slice none 0 0], .int .i64 (-1)]) (by simp [results, Tryz.results90, go_sem, e0, e1, e2]) rfl ?_
        have hpp : ∀ w', PutP x d left (.mk nul nul []) (-1) (.slice none 0 0) w w' := fun w' => PutP.no (hno) (by omega)
        first | exact ⟨.mk nul nul [], none, 0, _, rfl, hpp _, hue⟩ | exact ⟨.mk nul nul [], none, 0, rfl, hpp _, hue⟩
      have t5 : decide ((60 : Int) < (d : Int) + (XD : Int) - 1) = false := decide_eq_false (by omega)
      have t5' : ¬ (60 : Int) < (d : Int) + (XD : Int) - 1 := by omega
      go_wp2_with fail
      refine (HRD.out _ HW5.out).mono ?_
      rintro e w6 ⟨rfl, hw6⟩
      have HW6 := Lib.hid (HW5.out.trans hw6)
      have HB36 := Lib.hid (hw6.heap HB35.out (fun h => h))
      have p2 := hw6.cell r2 (fun h => h)
      have p3 := hw6.cell r3 (fun h => h)
      have p4 := hw6.cell r4 (fun h => h)
      clear hw6 HRD r2 r3 r4
      go_wp2_with fail
      refine (HCP.out _ HW6.out).mono ?_
      rintro e w7 ⟨r7, B7, rfl, hT7, hb7, hw7⟩
      obtain ⟨ya, yc, hry⟩ := TlO.shape hT7
      subst hry
      have HT7 := Lib.hid hT7
      have HB7 := Lib.hid hb7
      have HE7 := Lib.hid (HZ.out.trans (HW6.out.trans hw7))
      have HB37 := Lib.hid (hw7.heap HB36.out (fun h => h))
      have HS7 : Hid (w.heap.size + 2 ≤ w6.heap.size) := Lib.hid (by rw [← HS1.out]; exact HW6.out.size)
      have d0 := cellRow HB37.out 0 (.string ⟨#[]⟩) rfl
      have d1 := cellRow HB37.out 1 (.string ⟨#[]⟩) rfl
      have d2 := cellRow HB37.out 2 (.slice none 0 0) rfl
      have f2 := fun i => frozenRow HB37.out i
      dsimp only [tV]
      clear hT7 hb7 hw7 HCP p2 p3 p4
      go_wp2_with fail
      have hr3 := st3_heap HB37.out (.string x.name) (.string x.sort) (.slice ya x.kids.length yc)
      have hu := st3_upd' w7 (w.heap.size + 1) (.string x.name) (.string x.sort) (.slice ya x.kids.length yc)
      have e0 := cellRow hr3 0 _ rfl
      have e1 := cellRow hr3 1 _ rfl
      have e2 := cellRow hr3 2 _ rfl
      have hue := HE7.out.trans' hu (fun j hj e => by omega)
      refine bodyPost_ret (v := .tuple #[.agg #[.string x.name, .string x.sort, .slice ya x.kids.length yc], .int .i64 ((left : Int) - (XS : Int))]) (by simp [results, Tryz.results90, go_sem, e0, e1, e2]) rfl ?_
      have hpp := PutP.yes (z := x) (d := d) (left := left) (q := x) (r := (left : Int) - (XS : Int)) (v := .slice ya x.kids.length yc) (w := w) (w' := _) rfl (by rw [HXX.out.1]) (fun _ => by have := HXX.out; omega) ⟨B7, HT7.out.kept hu (fun j hj e => by have h1 := (HB7.out j hj).1; have := HS7.out; omega), fun j hj => ⟨by have h1 := (HB7.out j hj).1; have := HS7.out; omega, Nat.lt_of_lt_of_le (HB7.out j hj).2 hu.size⟩⟩
      first | exact ⟨x, ya, yc, _, rfl, hpp, hue⟩ | exact ⟨x, ya, yc, rfl, hpp, hue⟩
    | false =>
      have hn : bget Bs n = none := by
        cases hb : bget Bs n with
        | none => rfl
        | some T => rw [hb] at hF; cases hF
      have HZZ3 : Hid (Z = .mk n s (L.map (sbB Bs))) := Lib.hid (HZO.out (.inr (HNP.out (.mk n s L) (mem_sbts_self _) hs0)) (fun _ => hn))
      have HZK : Hid (Z.kids = L.map (sbB Bs)) := Lib.hid (by rw [HZZ3.out]; rfl)
      have HZD : Hid (Z.size = sizes (L.map (sbB Bs)) + 1 ∧ Z.depth = depths (L.map (sbB Bs)) + 1) := Lib.hid ⟨by rw [HZZ3.out, size_eq]; rfl, by rw [HZZ3.out, depth_eq]; rfl⟩
      rw [fixN41 hn] at HFI
      clear hn hF hs0 HZO
      go_wp2_with fail
      refine HFI.out.mono ?_
      rintro e w4 ⟨rfl, hw4⟩
      have hw4 := hw4.symm
      subst hw4
      clear HFI
      by_cases hl0 : left = 0
      · have t5 : decide ((left : Int) - 1 < 0) = true := decide_eq_true (by omega)
        have t5' : (left : Int) - 1 < 0 := by omega
        have hno : ¬ (Z.size ≤ left ∧ d + Z.depth ≤ 61) := fun h => by have h2 := size_pos' Z; omega
        clear hl0
        have f2 := fun i => frozenRow HB3.out i
        have d0 := cellRow HB3.out 0 (.string ⟨#[]⟩) rfl
        have d1 := cellRow HB3.out 1 (.string ⟨#[]⟩) rfl
        have d2 := cellRow HB3.out 2 (.slice none 0 0) rfl
        go_wp2_with fail
        have hr3 := st3_heap HB3.out (.string ⟨#[]⟩) (.string ⟨#[]⟩) (.slice none 0 0)
        have hu := st3_upd' w1 (w.heap.size + 1) (.string ⟨#[]⟩) (.string ⟨#[]⟩) (.slice none 0 0)
        have e0 := cellRow hr3 0 _ rfl
        have e1 := cellRow hr3 1 _ rfl
        have e2 := cellRow hr3 2 _ rfl
        have hue := HZ.out.trans' hu (fun j hj e => by omega)
        refine bodyPost_ret (v := .tuple #[.agg #[.string ⟨#[]⟩, .string ⟨#[]⟩, .slice none 0 0], .int .i64 (-1)]) (by simp [results, Tryz.results90, go_sem, e0, e1, e2]) rfl ?_
        have hpp : ∀ w', PutP Z d left (.mk nul nul []) (-1) (.slice none 0 0) w w' := fun w' => PutP.no (hno) (by omega)
        first | exact ⟨.mk nul nul [], none, 0, _, rfl, hpp _, hue⟩ | exact ⟨.mk nul nul [], none, 0, rfl, hpp _, hue⟩
      have t5 : decide ((left : Int) - 1 < 0) = false := decide_eq_false (by omega)
      have t5' : ¬ (left : Int) - 1 < 0 := by omega
      by_cases hd0 : 60 < d
      · have t6 : decide ((60 : Int) < (d : Int)) = true := decide_eq_true (by omega)
        have t6' : (60 : Int) < (d : Int) := by omega
        have hno : ¬ (Z.size ≤ left ∧ d + Z.depth ≤ 61) := fun h => by have h2 := depth_pos' Z; omega
        clear hl0 hd0
        have f2 := fun i => frozenRow HB3.out i
        have d0 := cellRow HB3.out 0 (.string ⟨#[]⟩) rfl
        have d1 := cellRow HB3.out 1 (.string ⟨#[]⟩) rfl
        have d2 := cellRow HB3.out 2 (.slice none 0 0) rfl
        go_wp2_with fail
        have hr3 := st3_heap HB3.out (.string ⟨#[]⟩) (.string ⟨#[]⟩) (.slice none 0 0)
        have hu := st3_upd' w1 (w.heap.size + 1) (.string ⟨#[]⟩) (.string ⟨#[]⟩) (.slice none 0 0)
        have e0 := cellRow hr3 0 _ rfl
        have e1 := cellRow hr3 1 _ rfl
        have e2 := cellRow hr3 2 _ rfl
        have hue := HZ.out.trans' hu (fun j hj e => by omega)
        refine bodyPost_ret (v := .tuple #[.agg #[.string ⟨#[]⟩, .string ⟨#[]⟩, .slice none 0 0], .int .i64 (-1)]) (by simp [results, Tryz.results90, go_sem, e0, e1, e2]) rfl ?_
        have hpp : ∀ w', PutP Z d left (.mk nul nul []) (-1) (.slice none 0 0) w w' := fun w' => PutP.no (hno) (by omega)
        first | exact ⟨.mk nul nul [], none, 0, _, rfl, hpp _, hue⟩ | exact ⟨.mk nul nul [], none, 0, rfl, hpp _, hue⟩
      have t6 : decide ((60 : Int) < (d : Int)) = false := decide_eq_false (by omega)
      have t6' : ¬ (60 : Int) < (d : Int) := by omega
      obtain ⟨lf, rfl⟩ : ∃ lf, left = lf + 1 := ⟨left - 1, by omega⟩
      have t7 : ((lf + 1 : Nat) : Int) - 1 = (lf : Int) := by omega
      have HD := Lib.hid (show d ≤ 60 by omega)
      clear hl0 hd0
      have hX4 := (Upd.refl (fun _ => False) w1).alloc (.cells #[.string n, .string s, .slice none 0 0] 24)
      have HB24 := Lib.hid (allocOld HB2.out (.cells #[.string n, .string s, .slice none 0 0] 24))
      have HB34 := Lib.hid (allocOld HB3.out (.cells #[.string n, .string s, .slice none 0 0] 24))
      have HB44 := Lib.hid (show (w1.alloc (.cells #[.string n, .string s, .slice none 0 0] 24)).heap[w.heap.size + 2]? = some (.cells #[.string n, .string s, .slice none 0 0] 24 (0, 0)) from alloc_at w1 (.cells #[.string n, .string s, .slice none 0 0] 24) HS1.out.symm)
      have HE4 := Lib.hid (HZ.out.trans hX4)
      have HS4 : Hid (w.heap.size + 3 ≤ (w1.alloc (.cells #[.string n, .string s, .slice none 0 0] 24)).heap.size) := Lib.hid (by have := HS1.out; simp; omega)
      go_wp2_with fail
      try rw [HS1.out]
      generalize w1.alloc (.cells #[.string n, .string s, .slice none 0 0] 24) = w4 at *
      clear hX4 x0 x1 x2 HB2 HB3
      have HJ0 : Hid (CpJ 24 (w.heap.size + 3) w4 (L.map (sbB Bs)) (.slice none 0 0) [] (fun _ _ => False) 0) := Lib.hid ⟨rfl, ⟨rfl, .inl ⟨rfl, rfl⟩⟩, fun i hi => absurd hi (Nat.not_lt_zero _), fun i j hi => absurd hi (Nat.not_lt_zero _), fun i i' j hi => absurd hi (Nat.not_lt_zero _)⟩
      go_loopg [3, 13] L.length (fun gk l3 iv wr => ∃ (k lk : Nat) (lv : Value) (us : List Value) (Bk : Nat → Nat → Prop), l3 = .int .i64 (lk : Int) ∧ iv = .int .i64 (k : Int) ∧ gk = L.length - k ∧ k ≤ L.length ∧ lk ≤ 1000 ∧ Hid (lk + sizes ((L.map (sbB Bs)).take k) = lf) ∧ Hid (CpJ 24 (w.heap.size + 3) wr (L.map (sbB Bs)) lv us Bk k) ∧ Hid (wr.heap[w.heap.size]? = some (.cells #[.string n, .string s, .slice a L.length cap] 24 (0, 0))) ∧ Hid (wr.heap[w.heap.size + 1]? = some (.cells #[.string ⟨#[]⟩, .string ⟨#[]⟩, .slice none 0 0] 24 (0, 0))) ∧ Hid (wr.heap[w.heap.size + 2]? = some (.cells #[.string n, .string s, lv] 24 (0, 0))) ∧ Hid (Ext w wr) ∧ Hid (w.heap.size + 3 ≤ wr.heap.size) ∧ Hid (d + depths ((L.map (sbB Bs)).take k) ≤ 60))
      case atStart => exact ⟨0, lf, _, _, _, rfl, rfl, rfl, Nat.zero_le _, by omega, Lib.hid (by simp [sizes]), HJ0, HB24, HB34, HB44, HE4, HS4, Lib.hid (by simp [depths]; exact HD.out)⟩
      case round =>
        clear HJ0 HB24 HB34 HB44 HE4 HS4 t7 t5 t5'
        obtain ⟨k, lk, lv, us, Bk, rfl, rfl, rfl, hk, hlk, HLK, HJ, HB2, HBr, HB3, HE, HSZ, HDK⟩ := hrel
        obtain ⟨la, lc, hlv⟩ := own_shape HJ.out.own
        subst hlv
        have b0 := cellRow HB2.out 0 (.string n) rfl
        have b1 := cellRow HB2.out 1 (.string s) rfl
        have b2 := cellRow HB2.out 2 (.slice a L.length cap) rfl
        by_cases hlt : k < L.length
        · obtain ⟨g, off, hga, _, hat⟩ := (HTL.out.ext HE.out).at_ (by omega)
          subst hga
          obtain ⟨xa, xc, q0, q1, q2, hkid⟩ := hat k hlt
          rw [← Nat.add_assoc] at q1 q2
          have z0 : (0 : Int) ≤ (k : Int) := by omega
          have z1 : (k : Int) < (L.length : Int) := by omega
          have z2 : decide ((k : Int) < (L.length : Int)) = true := decide_eq_true z1
          have z2' : decide (k < L.length) = true := decide_eq_true hlt
          have HIX := Lib.hid (HIH.out (tg L k) (tg_mem L k hlt) _ S wr (d + 1) lk (HW0.out.trans HE.out) ⟨xa, xc, rfl, hkid⟩ (fun j hj => Nat.lt_of_lt_of_le (HSS.out j hj) HE.out.size) (by have h1 := HSL.out; have h2 := size_mem (tg_mem L k hlt); omega) (HNP.out.kid (tg_mem L k hlt)) (by have := HD.out; omega) hlk)
          have hd1 : ((d + 1 : Nat) : Int) = (d : Int) + 1 := by omega
          rw [hd1] at HIX
          dsimp only [tV] at HIX
          have hlm : k < (L.map (sbB Bs)).length := by rw [List.length_map]; exact hlt
          have hsx := sizes_take (L.map (sbB Bs)) k hlm
          have hdx := depths_take (L.map (sbB Bs)) k hlm
          have hsl := sizes_take_le (L.map (sbB Bs)) (k + 1)
          have hdl := depths_take_le (L.map (sbB Bs)) (k + 1)
          have hzx : tg (L.map (sbB Bs)) k = sbB Bs (tg L k) := by
            unfold tg
            rw [List.getD_eq_getElem?_getD, List.getD_eq_getElem?_getD, List.getElem?_map, List.getElem?_eq_getElem hlt]
            rfl
          rw [hzx] at hsx hdx
          obtain ⟨x, hx⟩ : ∃ x, tg L k = x := ⟨_, rfl⟩
          rw [hx] at q0 q1 q2 HIX hzx hsx hdx
          have HZX := Lib.hid hzx
          have HSX := Lib.hid (And.intro hsx (And.intro hdx (And.intro hsl hdl)))
          clear hat hkid hx hzx hsx hdx hsl hdl hlm hd1
          go_wp2_with fail
          refine HIX.out.mono ?_
          rintro e w5 ⟨q, ya, yc, r, rfl, hq, hw5⟩
          have HQ5 := Lib.hid hq
          have HW5 := Lib.hid hw5
          have HX6 := Lib.hid (hw5.alloc (.cells #[.string q.name, .string q.sort, .slice ya q.kids.length yc] 24))
          have HB26 := Lib.hid (allocOld (hw5.heap HB2.out (fun h => h)) (.cells #[.string q.name, .string q.sort, .slice ya q.kids.length yc] 24))
          have HBr6 := Lib.hid (allocOld (hw5.heap HBr.out (fun h => h)) (.cells #[.string q.name, .string q.sort, .slice ya q.kids.length yc] 24))
          have HB36 := Lib.hid (allocOld (hw5.heap HB3.out (fun h => h)) (.cells #[.string q.name, .string q.sort, .slice ya q.kids.length yc] 24))
          have HB86 := Lib.hid (alloc0 w5 (.cells #[.string q.name, .string q.sort, .slice ya q.kids.length yc] 24))
          have HS6 := Lib.hid (Nat.le_trans HSZ.out HX6.out.size)
          clear hq hw5 HIX b0 b1 b2 q0 q1 q2
          by_cases hr : r < 0
          · have t8 : decide (r < 0) = true := decide_eq_true hr
            have HE6 := Lib.hid (HE.out.trans HX6.out)
            have hno : ¬ (Z.size ≤ lf + 1 ∧ d + Z.depth ≤ 61) := fun h => by
              have h1 := HQ5.out.2
              have h2 := HSX.out
              have h3 := HLK.out
              have h4 := HZD.out
              have h5 : ¬ ((sbB Bs x).size ≤ lk ∧ d + 1 + (sbB Bs x).depth ≤ 61) → False := fun _ => by
                refine absurd (And.intro ?_ ?_) ‹¬ ((sbB Bs x).size ≤ lk ∧ d + 1 + (sbB Bs x).depth ≤ 61)›
                · omega
                · omega
              by_cases h6 : ((sbB Bs x).size ≤ lk ∧ d + 1 + (sbB Bs x).depth ≤ 61)
              · have := (HQ5.out.1 h6).2.1
                omega
              · exact h5 h6
            have hr' : r < 0 := hr
            have f2 := fun i => frozenRow HBr6.out i
            have d0 := cellRow HBr6.out 0 (.string ⟨#[]⟩) rfl
            have d1 := cellRow HBr6.out 1 (.string ⟨#[]⟩) rfl
            have d2 := cellRow HBr6.out 2 (.slice none 0 0) rfl
            go_wp2_with fail
            have hr3 := st3_heap HBr6.out (.string ⟨#[]⟩) (.string ⟨#[]⟩) (.slice none 0 0)
            have hu := st3_upd' (w5.alloc (.cells #[.string q.name, .string q.sort, .slice ya q.kids.length yc] 24)) (w.heap.size + 1) (.string ⟨#[]⟩) (.string ⟨#[]⟩) (.slice none 0 0)
            have e0 := cellRow hr3 0 _ rfl
            have e1 := cellRow hr3 1 _ rfl
            have e2 := cellRow hr3 2 _ rfl
            have hue := HE6.out.trans' hu (fun j hj e => by omega)
            refine bodyPost_ret (v := .tuple #[.agg #[.string ⟨#[]⟩, .string ⟨#[]⟩, .slice none 0 0], .int .i64 (r)]) (by simp [results, Tryz.results90, go_sem, e0, e1, e2]) rfl ?_
            have hpp : ∀ w', PutP Z d (lf + 1) (.mk nul nul []) (r) (.slice none 0 0) w w' := fun w' => PutP.no (hno) (by omega)
            first | exact ⟨.mk nul nul [], none, 0, _, rfl, hpp _, hue⟩ | exact ⟨.mk nul nul [], none, 0, rfl, hpp _, hue⟩
          · have t8 : decide (r < 0) = false := decide_eq_false hr
            have hfit : (sbB Bs x).size ≤ lk ∧ d + 1 + (sbB Bs x).depth ≤ 61 := by
              by_cases h6 : ((sbB Bs x).size ≤ lk ∧ d + 1 + (sbB Bs x).depth ≤ 61)
              · exact h6
              · exact absurd (HQ5.out.2 h6) hr
            obtain ⟨hqz, hrz, Bx, hTx, hBx⟩ := HQ5.out.1 hfit
            obtain ⟨l2, rfl⟩ : ∃ l2 : Nat, r = (l2 : Int) := ⟨lk - (sbB Bs x).size, by omega⟩
            have HL2 : Hid (l2 + sizes ((L.map (sbB Bs)).take (k + 1)) = lf) := Lib.hid (by have h2 := HSX.out.1; have h3 := HLK.out; omega)
            have HD2 : Hid (d + depths ((L.map (sbB Bs)).take (k + 1)) ≤ 60) := Lib.hid (by have h2 := HSX.out.2.1; have h3 := HDK.out; omega)
            have hl2 : l2 ≤ 1000 := by omega
            have HTX := Lib.hid hTx
            have HBX := Lib.hid hBx
            have HQZ := Lib.hid hqz
            have k0 := cellRow HB86.out 0 (.string q.name) rfl
            have k1 := cellRow HB86.out 1 (.string q.sort) rfl
            have k2 := cellRow HB86.out 2 (.slice ya q.kids.length yc) rfl
            have c2 := cellRow HB36.out 2 (.slice la k lc) rfl
            have HOW6 := Lib.hid (((own_kept HJ.out.own HW5.out (fun _ _ h => h)).alloc (.cells #[.string q.name, .string q.sort, .slice ya q.kids.length yc] 24)).alloc (.cells #[.string q.name, .string q.sort, .slice ya q.kids.length yc] 24))
            have hs6 : w.heap.size + 3 ≤ ((w5.alloc (.cells #[.string q.name, .string q.sort, .slice ya q.kids.length yc] 24)).alloc (.cells #[.string q.name, .string q.sort, .slice ya q.kids.length yc] 24)).heap.size := by have h1 := HW5.out.size; have h2 := HSZ.out; simp; omega
            obtain ⟨iT, hi, hz0, hz1, hz2⟩ := info_parts infoT
            clear hTx hBx hqz hrz hfit hr
            generalize hw6 : w5.alloc (.cells #[.string q.name, .string q.sort, .slice ya q.kids.length yc] 24) = w6 at *
            go_wp2_with (at_builtin; refine wpList_append_at _ rfl (.tmp 90) (.tmp 92) 22 rfl (w.heap.size + 3) 24 iT (.agg #[.string ⟨#[]⟩, .string ⟨#[]⟩, .slice none 0 0]) 3 56 Tryz.underlying22 hi hz0 hz1 hz2 rfl (by decide) _ _ _ rfl HOW6.out _ 1 1 [Value.string q.name, .string q.sort, .slice ya q.kids.length yc] rfl rfl ?c1 ?c2 ?c3 ?c4 hs6 ?_)
            case c1 => exact new3 w6 _ _ _ 24
            case c2 => intro u hu; simp at hu; rcases hu with h | h | h <;> (subst h; rfl)
            case c3 => unfold maxLen; omega
            case c4 => omega
            intro v7 w7 hG7
            obtain ⟨a7, c7, hv7⟩ := own_shape hG7.own
            subst hv7
            have HRN : ¬ (Value.slice la k lc).ownBlock = some (w.heap.size + 2) := fun e => by have h1 := (HJ.out.own.lt _ e).1; omega
            have hB7 := hG7.upd.heap (allocOld HB36.out (.cells #[.string q.name, .string q.sort, .slice ya q.kids.length yc] 24)) HRN
            have f7 := fun i => frozenRow hB7 i
            have c2' := cellRow hB7 2 (.slice la k lc) rfl
            have HS8 := Lib.hid ((Upd.refl (fun j => j = w.heap.size + 2) w7).setCell (p := ⟨w.heap.size + 2, 2, none⟩) (.inl rfl) (.slice a7 (k + 1) c7))
            have HX7 : Hid (Ext wr w6) := HX6
            have HU8 : Hid (Upd (fun j => (Value.slice la k lc).ownBlock = some j ∨ j = w.heap.size + 2) wr (w7.setCell ⟨w.heap.size + 2, 2, none⟩ (.slice a7 (k + 1) c7))) := Lib.hid (((((HX7.out.alloc (.cells #[.string q.name, .string q.sort, .slice ya q.kids.length yc] 24)).mono (fun _ _ x => x.elim)).trans (hG7.upd.mono (fun _ _ e => .inl e)))).trans (HS8.out.mono (fun _ _ e => .inr e)))
            have hsz6 : w5.heap.size ≤ w6.heap.size := by rw [← hw6]; simp
            have HT6 : TlO 24 w6 Bx q.kids (.slice ya q.kids.length yc) := by rw [← hw6]; exact HTX.out.kept ((Upd.refl (fun _ => False) w5).alloc (.cells #[.string q.name, .string q.sort, .slice ya q.kids.length yc] 24)) (fun _ _ h => h)
            have HJ8 := Lib.hid (HJ.out.grow (x := q) (by rw [List.length_map]; exact hlt) (by rw [HZX.out, HQZ.out]) (Nat.lt_succ_self (w.heap.size + 2)) HSZ.out (Upd.refl _ _) HX7.out HT6 (fun j hj => ⟨(HBX.out j hj).1, Nat.lt_of_lt_of_le (HBX.out j hj).2 hsz6⟩) ((Upd.refl (fun _ => False) w6).alloc (.cells #[.string q.name, .string q.sort, .slice ya q.kids.length yc] 24)) hG7 HS8.out)
            have HE8 : Hid (Ext w (w7.setCell ⟨w.heap.size + 2, 2, none⟩ (.slice a7 (k + 1) c7))) := Lib.hid (HE.out.trans' HU8.out (fun j hj e => by
              rcases e with e | e
              · have h1 := (HJ.out.own.lt j e).1; omega
              · omega))
            have hne : ∀ j, j < w.heap.size + 2 → ¬ ((Value.slice la k lc).ownBlock = some j ∨ j = w.heap.size + 2) := fun j hj e => by
              rcases e with e | e
              · have h1 := (HJ.out.own.lt _ e).1; omega
              · omega
            have HB28 := Lib.hid (HU8.out.heap HB2.out (hne _ (by omega)))
            have HBr8 := Lib.hid (HU8.out.heap HBr.out (hne _ (by omega)))
            have hb38 := setBlock hB7 2 (.slice a7 (k + 1) c7)
            have HB38 : Hid ((w7.setCell ⟨w.heap.size + 2, 2, none⟩ (.slice a7 (k + 1) c7)).heap[w.heap.size + 2]? = some (.cells #[.string n, .string s, .slice a7 (k + 1) c7] 24 (0, 0))) := Lib.hid (by simpa using hb38)
            have HS9 : Hid (w.heap.size + 3 ≤ (w7.setCell ⟨w.heap.size + 2, 2, none⟩ (.slice a7 (k + 1) c7)).heap.size) := Lib.hid (Nat.le_trans HSZ.out HU8.out.size)
            clear hb38 hne hG7 HT6 hsz6 hB7 hi hz0 hz1 hz2
            go_wp2_with fail
            go_roundg (L.length - (k + 1))
            case measure => omega
            case rel => exact ⟨k + 1, l2, _, _, _, rfl, by go_num, rfl, by omega, hl2, HL2, HJ8, HB28, HBr8, HB38, HE8, HS9, HD2⟩
        · obtain rfl : k = L.length := by omega
          have z2 : decide ((L.length : Int) < (L.length : Int)) = false := decide_eq_false (by omega)
          have hfin := HJ.out
          have hll : (L.map (sbB Bs)).length = L.length := List.length_map ..
          have hlks := HLK.out
          have hdks := HDK.out
          rw [← hll] at hfin
          have hfin := hfin.fin
          have HFIN := Lib.hid hfin
          rw [hll] at HFIN
          rw [← hll, List.take_length] at hlks hdks
          have HLS := Lib.hid (And.intro hlks hdks)
          have c0 := cellRow HB3.out 0 (.string n) rfl
          have c1 := cellRow HB3.out 1 (.string s) rfl
          have c2 := cellRow HB3.out 2 (.slice la L.length lc) rfl
          have f2 := fun i => frozenRow HBr.out i
          have d0 := cellRow HBr.out 0 (.string ⟨#[]⟩) rfl
          have d1 := cellRow HBr.out 1 (.string ⟨#[]⟩) rfl
          have d2 := cellRow HBr.out 2 (.slice none 0 0) rfl
          clear hfin hll hlks hdks
          go_wp2_with fail
          have hr3 := st3_heap HBr.out (.string n) (.string s) (.slice la L.length lc)
          have hu := st3_upd' wr (w.heap.size + 1) (.string n) (.string s) (.slice la L.length lc)
          have e0 := cellRow hr3 0 _ rfl
          have e1 := cellRow hr3 1 _ rfl
          have e2 := cellRow hr3 2 _ rfl
          have hue := HE.out.trans' hu (fun j hj e => by omega)
          refine bodyPost_ret (v := .tuple #[.agg #[.string n, .string s, .slice la L.length lc], .int .i64 ((lk : Int))]) (by simp [results, Tryz.results90, go_sem, e0, e1, e2]) rfl ?_
          have hpp := PutP.yes (z := Z) (d := d) (left := lf + 1) (q := Z) (r := (lk : Int)) (v := .slice la L.length lc) (w := w) (w' := _) rfl (by have h1 := HLS.out.1; have h2 := HZD.out; omega) (fun _ => by have h1 := HLS.out.2; have h2 := HZD.out; omega) ⟨fun j => w.heap.size + 3 ≤ j ∧ j < wr.heap.size, by rw [HZK.out]; simpa using HFIN.out.kept hu (fun j hj e => by have h1 := hj.1; omega), fun j hj => ⟨by have h1 := hj.1; omega, Nat.lt_of_lt_of_le hj.2 hu.size⟩⟩
          rw [HZZ3.out] at hpp ⊢
          have hkk : (L.map (sbB Bs)).length = L.length := List.length_map ..
          refine ⟨.mk n s (L.map (sbB Bs)), la, lc, ?_⟩
          dsimp only [Tm.name, Tm.sort, Tm.kids] at hpp ⊢
          rw [hkk]
          first | exact ⟨_, rfl, hpp, hue⟩ | exact ⟨rfl, hpp, hue⟩
  rw [decide_eq_true hs0] at t1
  have HZZ3 : Hid (Z = .mk n s (L.map (sbB Bs))) := Lib.hid (HZO.out (.inl hs0) (fun h => absurd hs0 h))
  have HZK : Hid (Z.kids = L.map (sbB Bs)) := Lib.hid (by rw [HZZ3.out]; rfl)
  have HZD : Hid (Z.size = sizes (L.map (sbB Bs)) + 1 ∧ Z.depth = depths (L.map (sbB Bs)) + 1) := Lib.hid ⟨by rw [HZZ3.out, size_eq]; rfl, by rw [HZZ3.out, depth_eq]; rfl⟩
  clear HFI hs0 HZO
  by_cases hl0 : left = 0
  · have t5 : decide ((left : Int) - 1 < 0) = true := decide_eq_true (by omega)
    have t5' : (left : Int) - 1 < 0 := by omega
    have hno : ¬ (Z.size ≤ left ∧ d + Z.depth ≤ 61) := fun h => by have h2 := size_pos' Z; omega
    clear hl0
    have f2 := fun i => frozenRow HB3.out i
    have d0 := cellRow HB3.out 0 (.string ⟨#[]⟩) rfl
    have d1 := cellRow HB3.out 1 (.string ⟨#[]⟩) rfl
    have d2 := cellRow HB3.out 2 (.slice none 0 0) rfl
    go_wp2_with fail
    have hr3 := st3_heap HB3.out (.string ⟨#[]⟩) (.string ⟨#[]⟩) (.slice none 0 0)
    have hu := st3_upd' w1 (w.heap.size + 1) (.string ⟨#[]⟩) (.string ⟨#[]⟩) (.slice none 0 0)
    have e0 := cellRow hr3 0 _ rfl
    have e1 := cellRow hr3 1 _ rfl
    have e2 := cellRow hr3 2 _ rfl
    have hue := HZ.out.trans' hu (fun j hj e => by omega)
    refine bodyPost_ret (v := .tuple #[.agg #[.string ⟨#[]⟩, .string ⟨#[]⟩, .slice none 0 0], .int .i64 (-1)]) (by simp [results, Tryz.results90, go_sem, e0, e1, e2]) rfl ?_
    have hpp : ∀ w', PutP Z d left (.mk nul nul []) (-1) (.slice none 0 0) w w' := fun w' => PutP.no (hno) (by omega)
    first | exact ⟨.mk nul nul [], none, 0, _, rfl, hpp _, hue⟩ | exact ⟨.mk nul nul [], none, 0, rfl, hpp _, hue⟩
  have t5 : decide ((left : Int) - 1 < 0) = false := decide_eq_false (by omega)
  have t5' : ¬ (left : Int) - 1 < 0 := by omega
  by_cases hd0 : 60 < d
  · have t6 : decide ((60 : Int) < (d : Int)) = true := decide_eq_true (by omega)
    have t6' : (60 : Int) < (d : Int) := by omega
    have hno : ¬ (Z.size ≤ left ∧ d + Z.depth ≤ 61) := fun h => by have h2 := depth_pos' Z; omega
    clear hl0 hd0
    have f2 := fun i => frozenRow HB3.out i
    have d0 := cellRow HB3.out 0 (.string ⟨#[]⟩) rfl
    have d1 := cellRow HB3.out 1 (.string ⟨#[]⟩) rfl
    have d2 := cellRow HB3.out 2 (.slice none 0 0) rfl
    go_wp2_with fail
    have hr3 := st3_heap HB3.out (.string ⟨#[]⟩) (.string ⟨#[]⟩) (.slice none 0 0)
    have hu := st3_upd' w1 (w.heap.size + 1) (.string ⟨#[]⟩) (.string ⟨#[]⟩) (.slice none 0 0)
    have e0 := cellRow hr3 0 _ rfl
    have e1 := cellRow hr3 1 _ rfl
    have e2 := cellRow hr3 2 _ rfl
    have hue := HZ.out.trans' hu (fun j hj e => by omega)
    refine bodyPost_ret (v := .tuple #[.agg #[.string ⟨#[]⟩, .string ⟨#[]⟩, .slice none 0 0], .int .i64 (-1)]) (by simp [results, Tryz.results90, go_sem, e0, e1, e2]) rfl ?_
    have hpp : ∀ w', PutP Z d left (.mk nul nul []) (-1) (.slice none 0 0) w w' := fun w' => PutP.no (hno) (by omega)
    first | exact ⟨.mk nul nul [], none, 0, _, rfl, hpp _, hue⟩ | exact ⟨.mk nul nul [], none, 0, rfl, hpp _, hue⟩
  have t6 : decide ((60 : Int) < (d : Int)) = false := decide_eq_false (by omega)
  have t6' : ¬ (60 : Int) < (d : Int) := by omega
  obtain ⟨lf, rfl⟩ : ∃ lf, left = lf + 1 := ⟨left - 1, by omega⟩
  have t7 : ((lf + 1 : Nat) : Int) - 1 = (lf : Int) := by omega
  have HD := Lib.hid (show d ≤ 60 by omega)
  clear hl0 hd0
  have hX4 := (Upd.refl (fun _ => False) w1).alloc (.cells #[.string n, .string s, .slice none 0 0] 24)
  have HB24 := Lib.hid (allocOld HB2.out (.cells #[.string n, .string s, .slice none 0 0] 24))
  have HB34 := Lib.hid (allocOld HB3.out (.cells #[.string n, .string s, .slice none 0 0] 24))
  have HB44 := Lib.hid (show (w1.alloc (.cells #[.string n, .string s, .slice none 0 0] 24)).heap[w.heap.size + 2]? = some (.cells #[.string n, .string s, .slice none 0 0] 24 (0, 0)) from alloc_at w1 (.cells #[.string n, .string s, .slice none 0 0] 24) HS1.out.symm)
  have HE4 := Lib.hid (HZ.out.trans hX4)
  have HS4 : Hid (w.heap.size + 3 ≤ (w1.alloc (.cells #[.string n, .string s, .slice none 0 0] 24)).heap.size) := Lib.hid (by have := HS1.out; simp; omega)
  go_wp2_with fail
  try rw [HS1.out]
  generalize w1.alloc (.cells #[.string n, .string s, .slice none 0 0] 24) = w4 at *
  clear hX4 x0 x1 x2 HB2 HB3
  have HJ0 : Hid (CpJ 24 (w.heap.size + 3) w4 (L.map (sbB Bs)) (.slice none 0 0) [] (fun _ _ => False) 0) := Lib.hid ⟨rfl, ⟨rfl, .inl ⟨rfl, rfl⟩⟩, fun i hi => absurd hi (Nat.not_lt_zero _), fun i j hi => absurd hi (Nat.not_lt_zero _), fun i i' j hi => absurd hi (Nat.not_lt_zero _)⟩
  go_loopg [3, 13] L.length (fun gk l3 iv wr => ∃ (k lk : Nat) (lv : Value) (us : List Value) (Bk : Nat → Nat → Prop), l3 = .int .i64 (lk : Int) ∧ iv = .int .i64 (k : Int) ∧ gk = L.length - k ∧ k ≤ L.length ∧ lk ≤ 1000 ∧ Hid (lk + sizes ((L.map (sbB Bs)).take k) = lf) ∧ Hid (CpJ 24 (w.heap.size + 3) wr (L.map (sbB Bs)) lv us Bk k) ∧ Hid (wr.heap[w.heap.size]? = some (.cells #[.string n, .string s, .slice a L.length cap] 24 (0, 0))) ∧ Hid (wr.heap[w.heap.size + 1]? = some (.cells #[.string ⟨#[]⟩, .string ⟨#[]⟩, .slice none 0 0] 24 (0, 0))) ∧ Hid (wr.heap[w.heap.size + 2]? = some (.cells #[.string n, .string s, lv] 24 (0, 0))) ∧ Hid (Ext w wr) ∧ Hid (w.heap.size + 3 ≤ wr.heap.size) ∧ Hid (d + depths ((L.map (sbB Bs)).take k) ≤ 60))
  case atStart => exact ⟨0, lf, _, _, _, rfl, rfl, rfl, Nat.zero_le _, by omega, Lib.hid (by simp [sizes]), HJ0, HB24, HB34, HB44, HE4, HS4, Lib.hid (by simp [depths]; exact HD.out)⟩
  case round =>
    clear HJ0 HB24 HB34 HB44 HE4 HS4 t7 t5 t5'
    obtain ⟨k, lk, lv, us, Bk, rfl, rfl, rfl, hk, hlk, HLK, HJ, HB2, HBr, HB3, HE, HSZ, HDK⟩ := hrel
    obtain ⟨la, lc, hlv⟩ := own_shape HJ.out.own
    subst hlv
    have b0 := cellRow HB2.out 0 (.string n) rfl
    have b1 := cellRow HB2.out 1 (.string s) rfl
    have b2 := cellRow HB2.out 2 (.slice a L.length cap) rfl
    by_cases hlt : k < L.length
    · obtain ⟨g, off, hga, _, hat⟩ := (HTL.out.ext HE.out).at_ (by omega)
      subst hga
      obtain ⟨xa, xc, q0, q1, q2, hkid⟩ := hat k hlt
      rw [← Nat.add_assoc] at q1 q2
      have z0 : (0 : Int) ≤ (k : Int) := by omega
      have z1 : (k : Int) < (L.length : Int) := by omega
      have z2 : decide ((k : Int) < (L.length : Int)) = true := decide_eq_true z1
      have z2' : decide (k < L.length) = true := decide_eq_true hlt
      have HIX := Lib.hid (HIH.out (tg L k) (tg_mem L k hlt) _ S wr (d + 1) lk (HW0.out.trans HE.out) ⟨xa, xc, rfl, hkid⟩ (fun j hj => Nat.lt_of_lt_of_le (HSS.out j hj) HE.out.size) (by have h1 := HSL.out; have h2 := size_mem (tg_mem L k hlt); omega) (HNP.out.kid (tg_mem L k hlt)) (by have := HD.out; omega) hlk)
      have hd1 : ((d + 1 : Nat) : Int) = (d : Int) + 1 := by omega
      rw [hd1] at HIX
      dsimp only [tV] at HIX
      have hlm : k < (L.map (sbB Bs)).length := by rw [List.length_map]; exact hlt
      have hsx := sizes_take (L.map (sbB Bs)) k hlm
      have hdx := depths_take (L.map (sbB Bs)) k hlm
      have hsl := sizes_take_le (L.map (sbB Bs)) (k + 1)
      have hdl := depths_take_le (L.map (sbB Bs)) (k + 1)
      have hzx : tg (L.map (sbB Bs)) k = sbB Bs (tg L k) := by
        unfold tg
        rw [List.getD_eq_getElem?_getD, List.getD_eq_getElem?_getD, List.getElem?_map, List.getElem?_eq_getElem hlt]
        rfl
      rw [hzx] at hsx hdx
      obtain ⟨x, hx⟩ : ∃ x, tg L k = x := ⟨_, rfl⟩
      rw [hx] at q0 q1 q2 HIX hzx hsx hdx
      have HZX := Lib.hid hzx
      have HSX := Lib.hid (And.intro hsx (And.intro hdx (And.intro hsl hdl)))
      clear hat hkid hx hzx hsx hdx hsl hdl hlm hd1
      go_wp2_with fail
      refine HIX.out.mono ?_
      rintro e w5 ⟨q, ya, yc, r, rfl, hq, hw5⟩
      have HQ5 := Lib.hid hq
      have HW5 := Lib.hid hw5
      have HX6 := Lib.hid (hw5.alloc (.cells #[.string q.name, .string q.sort, .slice ya q.kids.length yc] 24))
      have HB26 := Lib.hid (allocOld (hw5.heap HB2.out (fun h => h)) (.cells #[.string q.name, .string q.sort, .slice ya q.kids.length yc] 24))
      have HBr6 := Lib.hid (allocOld (hw5.heap HBr.out (fun h => h)) (.cells #[.string q.name, .string q.sort, .slice ya q.kids.length yc] 24))
      have HB36 := Lib.hid (allocOld (hw5.heap HB3.out (fun h => h)) (.cells #[.string q.name, .string q.sort, .slice ya q.kids.length yc] 24))
      have HB86 := Lib.hid (alloc0 w5 (.cells #[.string q.name, .string q.sort, .slice ya q.kids.length yc] 24))
      have HS6 := Lib.hid (Nat.le_trans HSZ.out HX6.out.size)
      clear hq hw5 HIX b0 b1 b2 q0 q1 q2
      by_cases hr : r < 0
      · have t8 : decide (r < 0) = true := decide_eq_true hr
        have HE6 := Lib.hid (HE.out.trans HX6.out)
        have hno : ¬ (Z.size ≤ lf + 1 ∧ d + Z.depth ≤ 61) := fun h => by
          have h1 := HQ5.out.2
          have h2 := HSX.out
          have h3 := HLK.out
          have h4 := HZD.out
          have h5 : ¬ ((sbB Bs x).size ≤ lk ∧ d + 1 + (sbB Bs x).depth ≤ 61) → False := fun _ => by
            refine absurd (And.intro ?_ ?_) ‹¬ ((sbB Bs x).size ≤ lk ∧ d + 1 + (sbB Bs x).depth ≤ 61)›
            · omega
            · omega
          by_cases h6 : ((sbB Bs x).size ≤ lk ∧ d + 1 + (sbB Bs x).depth ≤ 61)
          · have := (HQ5.out.1 h6).2.1
            omega
          · exact h5 h6
        have hr' : r < 0 := hr
        have f2 := fun i => frozenRow HBr6.out i
        have d0 := cellRow HBr6.out 0 (.string ⟨#[]⟩) rfl
        have d1 := cellRow HBr6.out 1 (.string ⟨#[]⟩) rfl
        have d2 := cellRow HBr6.out 2 (.slice none 0 0) rfl
        go_wp2_with fail
        have hr3 := st3_heap HBr6.out (.string ⟨#[]⟩) (.string ⟨#[]⟩) (.slice none 0 0)
        have hu := st3_upd' (w5.alloc (.cells #[.string q.name, .string q.sort, .slice ya q.kids.length yc] 24)) (w.heap.size + 1) (.string ⟨#[]⟩) (.string ⟨#[]⟩) (.slice none 0 0)
        have e0 := cellRow hr3 0 _ rfl
        have e1 := cellRow hr3 1 _ rfl
        have e2 := cellRow hr3 2 _ rfl
        have hue := HE6.out.trans' hu (fun j hj e => by omega)
        refine bodyPost_ret (v := .tuple #[.agg #[.string ⟨#[]⟩, .string ⟨#[]⟩, .slice none 0 0], .int .i64 (r)]) (by simp [results, Tryz.results90, go_sem, e0, e1, e2]) rfl ?_
        have hpp : ∀ w', PutP Z d (lf + 1) (.mk nul nul []) (r) (.slice none 0 0) w w' := fun w' => PutP.no (hno) (by omega)
        first | exact ⟨.mk nul nul [], none, 0, _, rfl, hpp _, hue⟩ | exact ⟨.mk nul nul [], none, 0, rfl, hpp _, hue⟩
      · have t8 : decide (r < 0) = false := decide_eq_false hr
        have hfit : (sbB Bs x).size ≤ lk ∧ d + 1 + (sbB Bs x).depth ≤ 61 := by
          by_cases h6 : ((sbB Bs x).size ≤ lk ∧ d + 1 + (sbB Bs x).depth ≤ 61)
          · exact h6
          · exact absurd (HQ5.out.2 h6) hr
        obtain ⟨hqz, hrz, Bx, hTx, hBx⟩ := HQ5.out.1 hfit
        obtain ⟨l2, rfl⟩ : ∃ l2 : Nat, r = (l2 : Int) := ⟨lk - (sbB Bs x).size, by omega⟩
        have HL2 : Hid (l2 + sizes ((L.map (sbB Bs)).take (k + 1)) = lf) := Lib.hid (by have h2 := HSX.out.1; have h3 := HLK.out; omega)
        have HD2 : Hid (d + depths ((L.map (sbB Bs)).take (k + 1)) ≤ 60) := Lib.hid (by have h2 := HSX.out.2.1; have h3 := HDK.out; omega)
        have hl2 : l2 ≤ 1000 := by omega
        have HTX := Lib.hid hTx
        have HBX := Lib.hid hBx
        have HQZ := Lib.hid hqz
        have k0 := cellRow HB86.out 0 (.string q.name) rfl
        have k1 := cellRow HB86.out 1 (.string q.sort) rfl
        have k2 := cellRow HB86.out 2 (.slice ya q.kids.length yc) rfl
        have c2 := cellRow HB36.out 2 (.slice la k lc) rfl
        have HOW6 := Lib.hid (((own_kept HJ.out.own HW5.out (fun _ _ h => h)).alloc (.cells #[.string q.name, .string q.sort, .slice ya q.kids.length yc] 24)).alloc (.cells #[.string q.name, .string q.sort, .slice ya q.kids.length yc] 24))
        have hs6 : w.heap.size + 3 ≤ ((w5.alloc (.cells #[.string q.name, .string q.sort, .slice ya q.kids.length yc] 24)).alloc (.cells #[.string q.name, .string q.sort, .slice ya q.kids.length yc] 24)).heap.size := by have h1 := HW5.out.size; have h2 := HSZ.out; simp; omega
        obtain ⟨iT, hi, hz0, hz1, hz2⟩ := info_parts infoT
        clear hTx hBx hqz hrz hfit hr
        generalize hw6 : w5.alloc (.cells #[.string q.name, .string q.sort, .slice ya q.kids.length yc] 24) = w6 at *
        go_wp2_with (at_builtin; refine wpList_append_at _ rfl (.tmp 90) (.tmp 92) 22 rfl (w.heap.size + 3) 24 iT (.agg #[.string ⟨#[]⟩, .string ⟨#[]⟩, .slice none 0 0]) 3 56 Tryz.underlying22 hi hz0 hz1 hz2 rfl (by decide) _ _ _ rfl HOW6.out _ 1 1 [Value.string q.name, .string q.sort, .slice ya q.kids.length yc] rfl rfl ?c1 ?c2 ?c3 ?c4 hs6 ?_)
        case c1 => exact new3 w6 _ _ _ 24
        case c2 => intro u hu; simp at hu; rcases hu with h | h | h <;> (subst h; rfl)
        case c3 => unfold maxLen; omega
        case c4 => omega
        intro v7 w7 hG7
        obtain ⟨a7, c7, hv7⟩ := own_shape hG7.own
        subst hv7
        have HRN : ¬ (Value.slice la k lc).ownBlock = some (w.heap.size + 2) := fun e => by have h1 := (HJ.out.own.lt _ e).1; omega
        have hB7 := hG7.upd.heap (allocOld HB36.out (.cells #[.string q.name, .string q.sort, .slice ya q.kids.length yc] 24)) HRN
        have f7 := fun i => frozenRow hB7 i
        have c2' := cellRow hB7 2 (.slice la k lc) rfl
        have HS8 := Lib.hid ((Upd.refl (fun j => j = w.heap.size + 2) w7).setCell (p := ⟨w.heap.size + 2, 2, none⟩) (.inl rfl) (.slice a7 (k + 1) c7))
        have HX7 : Hid (Ext wr w6) := HX6
        have HU8 : Hid (Upd (fun j => (Value.slice la k lc).ownBlock = some j ∨ j = w.heap.size + 2) wr (w7.setCell ⟨w.heap.size + 2, 2, none⟩ (.slice a7 (k + 1) c7))) := Lib.hid (((((HX7.out.alloc (.cells #[.string q.name, .string q.sort, .slice ya q.kids.length yc] 24)).mono (fun _ _ x => x.elim)).trans (hG7.upd.mono (fun _ _ e => .inl e)))).trans (HS8.out.mono (fun _ _ e => .inr e)))
        have hsz6 : w5.heap.size ≤ w6.heap.size := by rw [← hw6]; simp
        have HT6 : TlO 24 w6 Bx q.kids (.slice ya q.kids.length yc) := by rw [← hw6]; exact HTX.out.kept ((Upd.refl (fun _ => False) w5).alloc (.cells #[.string q.name, .string q.sort, .slice ya q.kids.length yc] 24)) (fun _ _ h => h)
        have HJ8 := Lib.hid (HJ.out.grow (x := q) (by rw [List.length_map]; exact hlt) (by rw [HZX.out, HQZ.out]) (Nat.lt_succ_self (w.heap.size + 2)) HSZ.out (Upd.refl _ _) HX7.out HT6 (fun j hj => ⟨(HBX.out j hj).1, Nat.lt_of_lt_of_le (HBX.out j hj).2 hsz6⟩) ((Upd.refl (fun _ => False) w6).alloc (.cells #[.string q.name, .string q.sort, .slice ya q.kids.length yc] 24)) hG7 HS8.out)
        have HE8 : Hid (Ext w (w7.setCell ⟨w.heap.size + 2, 2, none⟩ (.slice a7 (k + 1) c7))) := Lib.hid (HE.out.trans' HU8.out (fun j hj e => by
          rcases e with e | e
          · have h1 := (HJ.out.own.lt j e).1; omega
          · omega))
        have hne : ∀ j, j < w.heap.size + 2 → ¬ ((Value.slice la k lc).ownBlock = some j ∨ j = w.heap.size + 2) := fun j hj e => by
          rcases e with e | e
          · have h1 := (HJ.out.own.lt _ e).1; omega
          · omega
        have HB28 := Lib.hid (HU8.out.heap HB2.out (hne _ (by omega)))
        have HBr8 := Lib.hid (HU8.out.heap HBr.out (hne _ (by omega)))
        have hb38 := setBlock hB7 2 (.slice a7 (k + 1) c7)
        have HB38 : Hid ((w7.setCell ⟨w.heap.size + 2, 2, none⟩ (.slice a7 (k + 1) c7)).heap[w.heap.size + 2]? = some (.cells #[.string n, .string s, .slice a7 (k + 1) c7] 24 (0, 0))) := Lib.hid (by simpa using hb38)
        have HS9 : Hid (w.heap.size + 3 ≤ (w7.setCell ⟨w.heap.size + 2, 2, none⟩ (.slice a7 (k + 1) c7)).heap.size) := Lib.hid (Nat.le_trans HSZ.out HU8.out.size)
        clear hb38 hne hG7 HT6 hsz6 hB7 hi hz0 hz1 hz2
        go_wp2_with fail
        go_roundg (L.length - (k + 1))
        case measure => omega
        case rel => exact ⟨k + 1, l2, _, _, _, rfl, by go_num, rfl, by omega, hl2, HL2, HJ8, HB28, HBr8, HB38, HE8, HS9, HD2⟩
    · obtain rfl : k = L.length := by omega
      have z2 : decide ((L.length : Int) < (L.length : Int)) = false := decide_eq_false (by omega)
      have hfin := HJ.out
      have hll : (L.map (sbB Bs)).length = L.length := List.length_map ..
      have hlks := HLK.out
      have hdks := HDK.out
      rw [← hll] at hfin
      have hfin := hfin.fin
      have HFIN := Lib.hid hfin
      rw [hll] at HFIN
      rw [← hll, List.take_length] at hlks hdks
      have HLS := Lib.hid (And.intro hlks hdks)
      have c0 := cellRow HB3.out 0 (.string n) rfl
      have c1 := cellRow HB3.out 1 (.string s) rfl
      have c2 := cellRow HB3.out 2 (.slice la L.length lc) rfl
      have f2 := fun i => frozenRow HBr.out i
      have d0 := cellRow HBr.out 0 (.string ⟨#[]⟩) rfl
      have d1 := cellRow HBr.out 1 (.string ⟨#[]⟩) rfl
      have d2 := cellRow HBr.out 2 (.slice none 0 0) rfl
      clear hfin hll hlks hdks
      go_wp2_with fail
      have hr3 := st3_heap HBr.out (.string n) (.string s) (.slice la L.length lc)
      have hu := st3_upd' wr (w.heap.size + 1) (.string n) (.string s) (.slice la L.length lc)
      have e0 := cellRow hr3 0 _ rfl
      have e1 := cellRow hr3 1 _ rfl
      have e2 := cellRow hr3 2 _ rfl
      have hue := HE.out.trans' hu (fun j hj e => by omega)
      refine bodyPost_ret (v := .tuple #[.agg #[.string n, .string s, .slice la L.length lc], .int .i64 ((lk : Int))]) (by simp [results, Tryz.results90, go_sem, e0, e1, e2]) rfl ?_
      have hpp := PutP.yes (z := Z) (d := d) (left := lf + 1) (q := Z) (r := (lk : Int)) (v := .slice la L.length lc) (w := w) (w' := _) rfl (by have h1 := HLS.out.1; have h2 := HZD.out; omega) (fun _ => by have h1 := HLS.out.2; have h2 := HZD.out; omega) ⟨fun j => w.heap.size + 3 ≤ j ∧ j < wr.heap.size, by rw [HZK.out]; simpa using HFIN.out.kept hu (fun j hj e => by have h1 := hj.1; omega), fun j hj => ⟨by have h1 := hj.1; omega, Nat.lt_of_lt_of_le hj.2 hu.size⟩⟩
      rw [HZZ3.out] at hpp ⊢
      have hkk : (L.map (sbB Bs)).length = L.length := List.length_map ..
      refine ⟨.mk n s (L.map (sbB Bs)), la, lc, ?_⟩
      dsimp only [Tm.name, Tm.sort, Tm.kids] at hpp ⊢
      rw [hkk]
      first | exact ⟨_, rfl, hpp, hue⟩ | exact ⟨rfl, hpp, hue⟩

end Go.Proofs.YtlkcjmaiahnodaaGreatDoor

/- Apply, of the reference. -/
namespace Go.Proofs.YtlkcjmaiahnodaaGreatDoor
open Go.RowKit Go.Hw Go
set_option linter.unusedVariables false
set_option linter.unusedSimpArgs false

open Tm Go.Sort Go.Proofs Go.ChangeMaps
set_option maxRecDepth 100000 in
set_option maxHeartbeats 2000000 in
theorem rApply_x (Bs : List Bd) (t : Tm) (vB v : Value) (w : World) (hB : BnR (fun k => k < w.heap.size) (fun k => k < w.heap.size) w vB Bs) (hR : TmR (fun k => k < w.heap.size) w t v) (hl : Bs.length ≤ 1000000) :
    Calls Tryz.prog 30 #[vB, v] w fun e w' => ∃ r B, e = .returned (.tuple #[tV (appF nmB Bs t).1 r, .int .i64 (appF nmB Bs t).2]) ∧ TlO 24 w' B (appF nmB Bs t).1.kids r ∧ (∀ j, B j → w.heap.size ≤ j ∧ j < w'.heap.size) ∧ Ext w w' := by
  obtain ⟨Z, hZZ⟩ : ∃ Z, appF nmB Bs t = Z := ⟨_, rfl⟩
  rw [hZZ]
  have HZZ := Lib.hid hZZ
  clear hZZ
  have HV := Lib.hid (fun W (hW : Ext w W) => rvalB_x Bs vB W _ ((hB.ext hW).weaken (fun k hk => Nat.lt_of_lt_of_le hk hW.size) (fun k hk => hk)) hl)
  have HF := Lib.hid (fun W (hW : Ext w W) => rformed_x t v _ W (hR.ext hW))
  have HC := Lib.hid (fun (h2 : wf nmB t = true) W (hW : Ext w W) => clash_x Bs t vB v _ _ _ W (hB.ext hW) (hR.ext hW) h2 hl)
  have HP := Lib.hid (fun (h1 : vldB nmB Bs = true) (h2 : wf nmB t = true) W (hW : Ext w W) => put05_x Bs vB _ _ w (Lib.hid hB) (Lib.hid (fun k hk => hk)) (Lib.hid hl) (Lib.hid (fun b hb => by have := wf_size ((vldB_spec h1).2.2 b hb).2.2.1; omega)) t v _ W 1 1000 hW (hR.ext hW) (fun k hk => Nat.lt_of_lt_of_le hk hW.size) (by have := wf_size h2; omega) (wf_nop h2) (by decide) (by decide))
  obtain ⟨va, vc, rfl⟩ := hB.shape
  obtain ⟨a, cap, rfl, hT⟩ := hR
  dsimp only [tV] at HF HC HP ⊢
  have hZ := ((Upd.refl (fun _ => False) w).alloc (.cells #[.string t.name, .string t.sort, .slice a t.kids.length cap] 24)).alloc (.cells #[.string ⟨#[]⟩, .string ⟨#[]⟩, .slice none 0 0] 24)
  have H2 := Lib.hid (allocOld (alloc0 w (.cells #[.string t.name, .string t.sort, .slice a t.kids.length cap] 24)) (.cells #[.string ⟨#[]⟩, .string ⟨#[]⟩, .slice none 0 0] 24))
  have H3 := Lib.hid (alloc_at (w.alloc (.cells #[.string t.name, .string t.sort, .slice a t.kids.length cap] 24)) (.cells #[.string ⟨#[]⟩, .string ⟨#[]⟩, .slice none 0 0] 24) (n := w.heap.size + 1) (by simp))
  have hz2 : w.heap.size + 2 ≤ ((w.alloc (.cells #[.string t.name, .string t.sort, .slice a t.kids.length cap] 24)).alloc (.cells #[.string ⟨#[]⟩, .string ⟨#[]⟩, .slice none 0 0] 24)).heap.size := by simp
  have HZ2 := Lib.hid hz2
  have x0 := cellRow H2.out 0 (.string t.name) rfl
  have x1 := cellRow H2.out 1 (.string t.sort) rfl
  have x2 := cellRow H2.out 2 (.slice a t.kids.length cap) rfl
  have HZ := Lib.hid hZ
  have hAP : Hid (Z = if (vldB nmB Bs && wf nmB t) = true then (if clsh Bs t = true then (.mk nul nul [], 11) else if 1000 < (sbB Bs t).size ∨ 60 < (sbB Bs t).depth then (.mk nul nul [], 4) else if wf nmB (sbB Bs t) = false then (.mk nul nul [], 11) else (sbB Bs t, 0)) else (.mk nul nul [], 1)) := Lib.hid (by rw [← HZZ.out]; rfl)
  obtain ⟨b1, hb1⟩ : ∃ b, vldB nmB Bs = b := ⟨_, rfl⟩
  obtain ⟨b2, hb2⟩ : ∃ b, wf nmB t = b := ⟨_, rfl⟩
  obtain ⟨b3, hb3⟩ : ∃ b, clsh Bs t = b := ⟨_, rfl⟩
  rw [hb1] at HV HP hAP
  rw [hb2] at HF HC HP hAP
  rw [hb3] at HC hAP
  clear hT hB hl hZ hz2 HZZ hb1 hb2 hb3
  go_enter Tryz.func30, Tryz.ntmps30
  go_wp2_with fail
  generalize ((w.alloc (.cells #[.string t.name, .string t.sort, .slice a t.kids.length cap] 24)).alloc (.cells #[.string ⟨#[]⟩, .string ⟨#[]⟩, .slice none 0 0] 24)) = wa at *
  refine (HV.out _ HZ.out).mono ?_
  rintro e w3 ⟨rfl, hw3⟩
  have HE3 := Lib.hid (HZ.out.trans hw3)
  have H23 := Lib.hid (hw3.heap H2.out (fun h => h))
  have H33 := Lib.hid (hw3.heap H3.out (fun h => h))
  have HS3 : Hid (w.heap.size + 2 ≤ w3.heap.size) := Lib.hid (Nat.le_trans HZ2.out hw3.size)
  clear hw3 x0 x1 x2 H2 H3 HZ HV HZ2
  cases b1
  · obtain rfl : Z = (.mk nul nul [], 1) := by have := hAP.out; simpa using this
    have d0 := cellRow H33.out 0 (.string ⟨#[]⟩) rfl
    have d1 := cellRow H33.out 1 (.string ⟨#[]⟩) rfl
    have d2 := cellRow H33.out 2 (.slice none 0 0) rfl
    have f2 := fun i => frozenRow H33.out i
    go_wp2_with fail
    have hr3 := st3_heap H33.out (.string ⟨#[]⟩) (.string ⟨#[]⟩) (.slice none 0 0)
    have hu := st3_upd' w3 (w.heap.size + 1) (.string ⟨#[]⟩) (.string ⟨#[]⟩) (.slice none 0 0)
    have e0 := cellRow hr3 0 _ rfl
    have e1 := cellRow hr3 1 _ rfl
    have e2 := cellRow hr3 2 _ rfl
    refine bodyPost_ret (v := .tuple #[.agg #[.string ⟨#[]⟩, .string ⟨#[]⟩, .slice none 0 0], .int .i64 1]) (by simp [results, Tryz.results30, go_sem, e0, e1, e2]) rfl ?_
    have hue := HE3.out.trans' hu (fun j hj e => by omega)
    first | exact ⟨.slice none 0 0, fun _ => False, rfl, TlO.nil _ _ _, fun j hj => hj.elim, hue⟩ | exact ⟨.slice none 0 0, rfl, fun _ => False, TlO.nil _ _ _, fun j hj => hj.elim, hue⟩
  have x0 := cellRow H23.out 0 (.string t.name) rfl
  have x1 := cellRow H23.out 1 (.string t.sort) rfl
  have x2 := cellRow H23.out 2 (.slice a t.kids.length cap) rfl
  go_wp2_with fail
  refine (HF.out _ HE3.out).mono ?_
  rintro e w4 ⟨rfl, hw4⟩
  have HE4 := Lib.hid (HE3.out.trans hw4)
  have H24 := Lib.hid (hw4.heap H23.out (fun h => h))
  have H34 := Lib.hid (hw4.heap H33.out (fun h => h))
  have HS4 : Hid (w.heap.size + 2 ≤ w4.heap.size) := Lib.hid (Nat.le_trans HS3.out hw4.size)
  clear hw4 x0 x1 x2 H23 H33 HE3 HF HS3
  cases b2
  · obtain rfl : Z = (.mk nul nul [], 1) := by have := hAP.out; simpa using this
    have d0 := cellRow H34.out 0 (.string ⟨#[]⟩) rfl
    have d1 := cellRow H34.out 1 (.string ⟨#[]⟩) rfl
    have d2 := cellRow H34.out 2 (.slice none 0 0) rfl
    have f2 := fun i => frozenRow H34.out i
    go_wp2_with fail
    have hr3 := st3_heap H34.out (.string ⟨#[]⟩) (.string ⟨#[]⟩) (.slice none 0 0)
    have hu := st3_upd' w4 (w.heap.size + 1) (.string ⟨#[]⟩) (.string ⟨#[]⟩) (.slice none 0 0)
    have e0 := cellRow hr3 0 _ rfl
    have e1 := cellRow hr3 1 _ rfl
    have e2 := cellRow hr3 2 _ rfl
    refine bodyPost_ret (v := .tuple #[.agg #[.string ⟨#[]⟩, .string ⟨#[]⟩, .slice none 0 0], .int .i64 1]) (by simp [results, Tryz.results30, go_sem, e0, e1, e2]) rfl ?_
    have hue := HE4.out.trans' hu (fun j hj e => by omega)
    first | exact ⟨.slice none 0 0, fun _ => False, rfl, TlO.nil _ _ _, fun j hj => hj.elim, hue⟩ | exact ⟨.slice none 0 0, rfl, fun _ => False, TlO.nil _ _ _, fun j hj => hj.elim, hue⟩
  have x0 := cellRow H24.out 0 (.string t.name) rfl
  have x1 := cellRow H24.out 1 (.string t.sort) rfl
  have x2 := cellRow H24.out 2 (.slice a t.kids.length cap) rfl
  go_wp2_with fail
  refine (HC.out (by simp) _ HE4.out).mono ?_
  rintro e w5 ⟨rfl, hw5⟩
  have HE5 := Lib.hid (HE4.out.trans hw5)
  have H25 := Lib.hid (hw5.heap H24.out (fun h => h))
  have H35 := Lib.hid (hw5.heap H34.out (fun h => h))
  have HS5 : Hid (w.heap.size + 2 ≤ w5.heap.size) := Lib.hid (Nat.le_trans HS4.out hw5.size)
  clear hw5 x0 x1 x2 H24 H34 HE4 HC HS4
  cases b3
  rotate_left
  · obtain rfl : Z = (.mk nul nul [], 11) := by have := hAP.out; simpa using this
    have d0 := cellRow H35.out 0 (.string ⟨#[]⟩) rfl
    have d1 := cellRow H35.out 1 (.string ⟨#[]⟩) rfl
    have d2 := cellRow H35.out 2 (.slice none 0 0) rfl
    have f2 := fun i => frozenRow H35.out i
    go_wp2_with fail
    have hr3 := st3_heap H35.out (.string ⟨#[]⟩) (.string ⟨#[]⟩) (.slice none 0 0)
    have hu := st3_upd' w5 (w.heap.size + 1) (.string ⟨#[]⟩) (.string ⟨#[]⟩) (.slice none 0 0)
    have e0 := cellRow hr3 0 _ rfl
    have e1 := cellRow hr3 1 _ rfl
    have e2 := cellRow hr3 2 _ rfl
    refine bodyPost_ret (v := .tuple #[.agg #[.string ⟨#[]⟩, .string ⟨#[]⟩, .slice none 0 0], .int .i64 11]) (by simp [results, Tryz.results30, go_sem, e0, e1, e2]) rfl ?_
    have hue := HE5.out.trans' hu (fun j hj e => by omega)
    first | exact ⟨.slice none 0 0, fun _ => False, rfl, TlO.nil _ _ _, fun j hj => hj.elim, hue⟩ | exact ⟨.slice none 0 0, rfl, fun _ => False, TlO.nil _ _ _, fun j hj => hj.elim, hue⟩
  have x0 := cellRow H25.out 0 (.string t.name) rfl
  have x1 := cellRow H25.out 1 (.string t.sort) rfl
  have x2 := cellRow H25.out 2 (.slice a t.kids.length cap) rfl
  have HA2 := Lib.hid (HP.out (by simp) (by simp) w5 HE5.out)
  have hAP2 : Z = (if 1000 < (sbB Bs t).size ∨ 60 < (sbB Bs t).depth then (.mk nul nul [], 4) else if wf nmB (sbB Bs t) = false then (.mk nul nul [], 11) else (sbB Bs t, 0)) := by have := hAP.out; simpa using this
  have HAP := Lib.hid hAP2
  obtain ⟨z, hz⟩ : ∃ z, sbB Bs t = z := ⟨_, rfl⟩
  rw [hz] at HA2 HAP
  clear HP hAP hAP2 hz
  go_wp2_with fail
  refine HA2.out.mono ?_
  rintro e w6 ⟨q, ya, yc, r, rfl, hq, hw6⟩
  have hX7 := hw6.alloc (.cells #[.string q.name, .string q.sort, .slice ya q.kids.length yc] 24)
  have HQ := Lib.hid hq
  have HE7 := Lib.hid (HE5.out.trans hX7)
  have H37 := Lib.hid (hX7.heap H35.out (fun h => h))
  have HB7 := Lib.hid (alloc0 w6 (.cells #[.string q.name, .string q.sort, .slice ya q.kids.length yc] 24))
  have HX67 := Lib.hid ((Upd.refl (fun _ => False) w6).alloc (.cells #[.string q.name, .string q.sort, .slice ya q.kids.length yc] 24))
  clear hX7 hq hw6 HA2 x0 x1 x2
  by_cases hr : r < 0
  · have t8 : decide (r < 0) = true := decide_eq_true hr
    obtain rfl : Z = (.mk nul nul [], 4) := by
      rw [HAP.out, if_pos]
      by_cases h6 : (z.size ≤ 1000 ∧ 1 + z.depth ≤ 61)
      · have := (HQ.out.1 h6).2.1; omega
      · omega
    have d0 := cellRow H37.out 0 (.string ⟨#[]⟩) rfl
    have d1 := cellRow H37.out 1 (.string ⟨#[]⟩) rfl
    have d2 := cellRow H37.out 2 (.slice none 0 0) rfl
    have f2 := fun i => frozenRow H37.out i
    go_wp2_with fail
    have hr3 := st3_heap H37.out (.string ⟨#[]⟩) (.string ⟨#[]⟩) (.slice none 0 0)
    have hu := st3_upd' (w6.alloc (.cells #[.string q.name, .string q.sort, .slice ya q.kids.length yc] 24)) (w.heap.size + 1) (.string ⟨#[]⟩) (.string ⟨#[]⟩) (.slice none 0 0)
    have e0 := cellRow hr3 0 _ rfl
    have e1 := cellRow hr3 1 _ rfl
    have e2 := cellRow hr3 2 _ rfl
    refine bodyPost_ret (v := .tuple #[.agg #[.string ⟨#[]⟩, .string ⟨#[]⟩, .slice none 0 0], .int .i64 4]) (by simp [results, Tryz.results30, go_sem, e0, e1, e2]) rfl ?_
    have hue := HE7.out.trans' hu (fun j hj e => by omega)
    first | exact ⟨.slice none 0 0, fun _ => False, rfl, TlO.nil _ _ _, fun j hj => hj.elim, hue⟩ | exact ⟨.slice none 0 0, rfl, fun _ => False, TlO.nil _ _ _, fun j hj => hj.elim, hue⟩
  have t8 : decide (r < 0) = false := decide_eq_false hr
  have hfit : z.size ≤ 1000 ∧ 1 + z.depth ≤ 61 := by
    by_cases h6 : (z.size ≤ 1000 ∧ 1 + z.depth ≤ 61)
    · exact h6
    · exact absurd (HQ.out.2 h6) hr
  obtain ⟨hqz, hrz, B6, hT6, hb6⟩ := HQ.out.1 hfit
  subst hqz
  have HT7 := Lib.hid (hT6.kept HX67.out (fun _ _ h => h))
  have HBB7 : Hid (∀ j, B6 j → w.heap.size + 2 ≤ j ∧ j < (w6.alloc (.cells #[.string q.name, .string q.sort, .slice ya q.kids.length yc] 24)).heap.size) := Lib.hid (fun j hj => ⟨Nat.le_trans HS5.out (hb6 j hj).1, Nat.lt_of_lt_of_le (hb6 j hj).2 HX67.out.size⟩)
  have HFQ := Lib.hid (fun W (hW : Ext (w6.alloc (.cells #[.string q.name, .string q.sort, .slice ya q.kids.length yc] 24)) W) => rformed_x q (tV q (.slice ya q.kids.length yc)) _ W ⟨ya, yc, rfl, HT7.out.read.ext hW⟩)
  dsimp only [tV] at HFQ
  have hAP3 : Z = (if wf nmB q = false then (.mk nul nul [], 11) else (q, 0)) := by
    rw [HAP.out, if_neg (by omega)]
  obtain ⟨b4, hb4⟩ : ∃ b, wf nmB q = b := ⟨_, rfl⟩
  rw [hb4] at HFQ hAP3
  have HAP3 := Lib.hid hAP3
  have x0 := cellRow HB7.out 0 (.string q.name) rfl
  have x1 := cellRow HB7.out 1 (.string q.sort) rfl
  have x2 := cellRow HB7.out 2 (.slice ya q.kids.length yc) rfl
  clear hfit hrz hT6 hb6 hAP3 hb4
  go_wp2_with fail
  generalize w6.alloc (.cells #[.string q.name, .string q.sort, .slice ya q.kids.length yc] 24) = w7 at *
  refine (HFQ.out _ (Upd.refl _ _)).mono ?_
  rintro e w8 ⟨rfl, hw8⟩
  have HE8 := Lib.hid (HE7.out.trans hw8)
  have H38 := Lib.hid (hw8.heap H37.out (fun h => h))
  have HB8 := Lib.hid (hw8.heap HB7.out (fun h => h))
  have HT8 := Lib.hid (HT7.out.kept hw8 (fun _ _ h => h))
  have HBB8 : Hid (∀ j, B6 j → w.heap.size + 2 ≤ j ∧ j < w8.heap.size) := Lib.hid (fun j hj => ⟨(HBB7.out j hj).1, Nat.lt_of_lt_of_le (HBB7.out j hj).2 hw8.size⟩)
  clear hw8 x0 x1 x2 HFQ
  cases b4
  · obtain rfl : Z = (.mk nul nul [], 11) := by have := HAP3.out; simpa using this
    have d0 := cellRow H38.out 0 (.string ⟨#[]⟩) rfl
    have d1 := cellRow H38.out 1 (.string ⟨#[]⟩) rfl
    have d2 := cellRow H38.out 2 (.slice none 0 0) rfl
    have f2 := fun i => frozenRow H38.out i
    go_wp2_with fail
    have hr3 := st3_heap H38.out (.string ⟨#[]⟩) (.string ⟨#[]⟩) (.slice none 0 0)
    have hu := st3_upd' w8 (w.heap.size + 1) (.string ⟨#[]⟩) (.string ⟨#[]⟩) (.slice none 0 0)
    have e0 := cellRow hr3 0 _ rfl
    have e1 := cellRow hr3 1 _ rfl
    have e2 := cellRow hr3 2 _ rfl
    refine bodyPost_ret (v := .tuple #[.agg #[.string ⟨#[]⟩, .string ⟨#[]⟩, .slice none 0 0], .int .i64 11]) (by simp [results, Tryz.results30, go_sem, e0, e1, e2]) rfl ?_
    have hue := HE8.out.trans' hu (fun j hj e => by omega)
    first | exact ⟨.slice none 0 0, fun _ => False, rfl, TlO.nil _ _ _, fun j hj => hj.elim, hue⟩ | exact ⟨.slice none 0 0, rfl, fun _ => False, TlO.nil _ _ _, fun j hj => hj.elim, hue⟩
  obtain rfl : Z = (q, 0) := by have := HAP3.out; simpa using this
  have x0 := cellRow HB8.out 0 (.string q.name) rfl
  have x1 := cellRow HB8.out 1 (.string q.sort) rfl
  have x2 := cellRow HB8.out 2 (.slice ya q.kids.length yc) rfl
  have d0 := cellRow H38.out 0 (.string ⟨#[]⟩) rfl
  have d1 := cellRow H38.out 1 (.string ⟨#[]⟩) rfl
  have d2 := cellRow H38.out 2 (.slice none 0 0) rfl
  have f2 := fun i => frozenRow H38.out i
  go_wp2_with fail
  have hr3 := st3_heap H38.out (.string q.name) (.string q.sort) (.slice ya q.kids.length yc)
  have hu := st3_upd' w8 (w.heap.size + 1) (.string q.name) (.string q.sort) (.slice ya q.kids.length yc)
  have e0 := cellRow hr3 0 _ rfl
  have e1 := cellRow hr3 1 _ rfl
  have e2 := cellRow hr3 2 _ rfl
  refine bodyPost_ret (v := .tuple #[.agg #[.string q.name, .string q.sort, .slice ya q.kids.length yc], .int .i64 0]) (by simp [results, Tryz.results30, go_sem, e0, e1, e2]) rfl ?_
  have hue := HE8.out.trans' hu (fun j hj e => by omega)
  have own := HT8.out.kept hu (fun j hj e => by have h3 := (HBB8.out j hj).1; omega)
  have rng : ∀ j, B6 j → w.heap.size ≤ j ∧ j < _ := fun j hj => ⟨by have h3 := (HBB8.out j hj).1; omega, Nat.lt_of_lt_of_le (HBB8.out j hj).2 hu.size⟩
  first | exact ⟨.slice ya q.kids.length yc, B6, rfl, own, rng, hue⟩ | exact ⟨.slice ya q.kids.length yc, rfl, B6, own, rng, hue⟩

end Go.Proofs.YtlkcjmaiahnodaaGreatDoor

/- Composition, pure. -/
namespace Go.Proofs.YtlkcjmaiahnodaaGreatDoor
open Go.RowKit Go.Hw Go
set_option linter.unusedVariables false
set_option linter.unusedSimpArgs false

open Tm Go.Sort Go.Proofs Go.ChangeMaps
theorem nmB_nul : nmB nul = false := by decide +kernel
def itsB (f : Bd) : Bool := !decide (f.2.2.sort = nul) && decide (f.2.2.name = f.1)
theorem kids_nil {V : Tm} (h : wf nmB V = true) (hs : V.sort ≠ nul) : V = vr V.name V.sort := by
  have h1 : V.kids = [] := wf_nop h V (mem_sbts_self V) hs
  obtain ⟨n, s, L⟩ := V
  simp only [Tm.kids] at h1
  subst h1
  rfl
theorem slf_op {n so m : By} {K : List Tm} (hso : nmB so = true) : slfB (n, so, .mk m nul K) = false := by
  unfold slfB
  rw [decide_eq_false_iff_not]
  intro e
  injection e with _ e _
  have e : so = nul := e.symm
  rw [e, nmB_nul] at hso
  cases hso
theorem slf_var {n so m : By} (hs : so ≠ nul) : slfB (n, so, vr m so) = decide (m = n) := by
  unfold slfB
  rw [Bool.eq_iff_iff, decide_eq_true_eq, decide_eq_true_eq]
  constructor
  · intro e; injection e
  · intro e; simp only [e]
theorem cm_self {a b : List Bd} {x : Bd} {z : Tm} (ha : vldB nmB a = true) (hb : vldB nmB b = true) (hx : x ∈ a) (h : app1 nmB b x.2.2 = (z, 0)) : selfB (x.1, x.2.1, z) = slfB (x.1, x.2.1, z) ∧ itsB (x.1, x.2.1, z) = slfB (x.1, x.2.1, z) := by
  obtain ⟨hc, hz, hwz⟩ := app1_ok h
  obtain ⟨n, so, T⟩ := x
  obtain ⟨_, hso, hT, hsf⟩ := (vldB_spec ha).2.2 _ hx
  simp only at hso hT hsf hz ⊢ hc
  have hop : z.sort = nul → selfB (n, so, z) = slfB (n, so, z) ∧ itsB (n, so, z) = slfB (n, so, z) := fun e => by
    have h1 : slfB (n, so, z) = false := by
      obtain ⟨m, s, K⟩ := z
      simp only [Tm.sort] at e
      subst e
      exact slf_op hso
    rw [h1]
    unfold selfB isB itsB
    simp only [e]
    simp
  by_cases hzs : z.sort = nul
  · exact hop hzs
  · have hTs : T.sort ≠ nul := fun e => by
      obtain ⟨m, s, K⟩ := T
      simp only [Tm.sort] at e
      subst e
      unfold sbB at hz
      rw [sbT_opn] at hz
      exact hzs (by rw [hz]; rfl)
    obtain ⟨h1, h2⟩ := hsf hTs
    have hTv := kids_nil hT hTs
    have hsz : z.sort = so := by
      rw [hTv] at hz
      unfold sbB vr at hz
      rw [sbT_var _ hTs] at hz
      cases hg : bget b T.name with
      | none => rw [bsu_none hg] at hz; rw [hz]; exact h1
      | some V =>
        rw [bsu_some hg] at hz
        subst hz
        obtain ⟨c, hcm, h3, h4⟩ := bget_some hg
        have h5 := bget_of (asc_dist (vldB_spec hb).2.1) hcm
        rw [h3] at h5
        have h6 := (clsh_false hT).1 hc (T.name, T.sort) (by obtain ⟨m, s, K⟩ := T; exact vof_self hTs K) _ h5.2
        have h7 := (vldB_spec hb).2.2 _ hcm
        have h8 := (h7.2.2.2 (by rw [h4]; exact hzs)).1
        rw [h4] at h8
        rw [h8, h6, h1]
    have hzv := kids_nil hwz hzs
    have hso2 : so ≠ nul := by rw [← hsz]; exact hzs
    have h3 : slfB (n, so, z) = decide (z.name = n) := by
      rw [hzv, hsz]
      exact slf_var hso2
    rw [h3]
    unfold selfB isB itsB
    simp only [hsz]
    simp [hso2]
def cm1 (b : List Bd) (x : Bd) : Bd := (x.1, x.2.1, sbB b x.2.2)
theorem cmpA_fail {b : List Bd} {x : Bd} {l2 : List Bd} : ∀ {l1 : List Bd}, (∀ y ∈ l1, (app1 nmB b y.2.2).2 = 0) → (app1 nmB b x.2.2).2 ≠ 0 → cmpA nmB b (l1 ++ x :: l2) = ([], (app1 nmB b x.2.2).2)
  | [], _, h => by
    rw [List.nil_append]
    unfold cmpA
    rw [if_neg h]
  | y :: l1, h1, h => by
    rw [List.cons_append]
    unfold cmpA
    rw [if_pos (h1 y (List.mem_cons_self ..)), cmpA_fail (fun z hz => h1 z (List.mem_cons_of_mem _ hz)) h, if_neg h]
theorem addB_len (b : Bd) : ∀ l : List Bd, (addB l b).length = l.length + 1
  | [] => rfl
  | c :: l => by
    unfold addB
    split
    · rfl
    · rw [List.length_cons, addB_len b l, List.length_cons]
theorem srtB_len (X : List Bd) : (srtB X).length = (X.filter fun b => !slfB b).length := by
  have : ∀ (X l : List Bd), (X.foldl (fun l b => if slfB b = true then l else addB l b) l).length = l.length + (X.filter fun b => !slfB b).length := by
    intro X
    induction X with
    | nil => intro l; simp
    | cons b X ih =>
      intro l
      rw [List.foldl_cons, ih, List.filter_cons]
      cases slfB b with
      | true => simp
      | false => simp [addB_len]; omega
  unfold srtB
  rw [this]
  simp
def cmX (a b : List Bd) : List Bd := a.map (cm1 b) ++ b.filter fun x => (bget a x.1).isNone
theorem cmX_dist {a b : List Bd} (ha : vldB nmB a = true) (hb : vldB nmB b = true) : (cmX a b).Pairwise fun x y => x.1 ≠ y.1 := by
  have aa := (vldB_spec ha).2.1
  have ab := (vldB_spec hb).2.1
  unfold cmX
  rw [List.pairwise_append]
  refine ⟨?_, (asc_dist ab).filter _, fun x hx y hy => ?_⟩
  · rw [List.pairwise_map]
    exact asc_dist aa
  · obtain ⟨z, hz, rfl⟩ := List.mem_map.1 hx
    have hy2 := (List.mem_filter.1 hy).2
    intro e
    have := (bget_of (asc_dist aa) hz).1
    rw [show z.1 = y.1 from e] at this
    rw [this] at hy2
    cases hy2
theorem cmpF_bad {a b : List Bd} (h : (vldB nmB a && vldB nmB b) = false) : cmpF nmB a b = ([], 1) := by unfold cmpF; rw [if_pos h]
theorem cmpF_fail {a b : List Bd} {k : Nat} (hv : (vldB nmB a && vldB nmB b) = true) (hk : k < a.length) (h1 : ∀ j, j < k → (app1 nmB b (Go.Hw.bg a j).2.2).2 = 0) (h : (app1 nmB b (Go.Hw.bg a k).2.2).2 ≠ 0) : cmpF nmB a b = ([], (app1 nmB b (Go.Hw.bg a k).2.2).2) := by
  have e : a = a.take k ++ Go.Hw.bg a k :: a.drop (k + 1) := by
    rw [← bg_drop a k hk, List.take_append_drop]
  have h2 : cmpA nmB b a = ([], (app1 nmB b (Go.Hw.bg a k).2.2).2) := by
    rw [congrArg (cmpA nmB b) e]
    refine cmpA_fail (fun y hy => ?_) h
    obtain ⟨j, hj, rfl⟩ := List.getElem_of_mem hy
    rw [List.length_take] at hj
    have := h1 j (by omega)
    rw [bg_get (by omega)] at this
    rw [List.getElem_take]
    exact this
  unfold cmpF
  rw [if_neg (by rw [hv]; simp), h2, if_neg h]
theorem cmpF_full {a b : List Bd} (hv : (vldB nmB a && vldB nmB b) = true) (h1 : ∀ j, j < a.length → (app1 nmB b (Go.Hw.bg a j).2.2).2 = 0) : cmpF nmB a b = if 1000 < (srtB (cmX a b)).length then ([], 4) else (srtB (cmX a b), 0) := by
  have h2 : cmpA nmB b a = (a.map (cm1 b), 0) := cmpA_of (fun x hx => by
    obtain ⟨j, hj, rfl⟩ := List.getElem_of_mem hx
    have := h1 j hj
    rw [bg_get hj] at this
    exact this)
  unfold cmpF
  rw [if_neg (by rw [hv]; simp), h2, if_pos rfl]
  rfl
theorem srt_of {a b : List Bd} {L' : List Bd} (ha : vldB nmB a = true) (hb : vldB nmB b = true) (h1 : AscK (Prod.fst : Bd → By) L') (h2 : ∀ f, f ∈ L' ↔ f ∈ (cmX a b).filter fun b => !slfB b) : L' = srtB (cmX a b) := by
  obtain ⟨s1, s2⟩ := srtB_spec _ (cmX_dist ha hb)
  refine asc_uniq Prod.fst h1 s1 (fun x => ?_)
  rw [h2 x, s2 x, List.mem_filter]
  simp
theorem cmX_filter {a b : List Bd} (hb : vldB nmB b = true) : (cmX a b).filter (fun b => !slfB b) = (a.map (cm1 b)).filter (fun b => !slfB b) ++ b.filter fun x => (bget a x.1).isNone := by
  unfold cmX
  rw [List.filter_append]
  congr 1
  rw [List.filter_filter]
  refine List.filter_congr (fun x hx => ?_)
  rw [slf_of_vld nmB_nul hb hx]
  simp

end Go.Proofs.YtlkcjmaiahnodaaGreatDoor

/- Compose, of unify. -/
namespace Go.Proofs.YtlkcjmaiahnodaaGreatDoor
open Go.RowKit Go.Hw Go
set_option linter.unusedVariables false
set_option linter.unusedSimpArgs false

open Tm Go.Sort Go.Proofs Go.ChangeMaps
set_option maxRecDepth 100000 in
set_option maxHeartbeats 2000000 in
theorem compose_x (a b : List Bd) (va vb : Value) (w : World) (htab : AscT w) (hA : BnR (fun k => k < w.heap.size) (fun k => k < w.heap.size) w va a) (hB : BnR (fun k => k < w.heap.size) (fun k => k < w.heap.size) w vb b) (hla : a.length ≤ 1000000) (hlb : b.length ≤ 1000000) (hsa : ∀ x ∈ a, (x.2.2.size : Int) ≤ 1000000000000) (hsb : ∀ x ∈ b, (x.2.2.size : Int) ≤ 1000000000000) :
    Calls Tryz.prog 33 #[va, vb] w fun e w' => ∃ r, e = .returned (.tuple #[r, .int .i64 (cmpF nmB a b).2]) ∧ BnR (fun k => w.heap.size ≤ k ∧ k < w'.heap.size) (fun k => w.heap.size ≤ k ∧ k < w'.heap.size) w' r (cmpF nmB a b).1 ∧ Ext w w' := by
  obtain ⟨Z, hZZ⟩ : ∃ Z, cmpF nmB a b = Z := ⟨_, rfl⟩
  rw [hZZ]
  have HZZ := Lib.hid hZZ
  have HTAB := Lib.hid htab
  have HAA := Lib.hid hA
  have HBB := Lib.hid hB
  have hbA : ∀ W, Ext w W → BnR (fun k => k < W.heap.size) (fun k => k < W.heap.size) W va a := fun W hW => (hA.ext hW).weaken (fun k hk => Nat.lt_of_lt_of_le hk hW.size) (fun k hk => Nat.lt_of_lt_of_le hk hW.size)
  have hbB : ∀ W, Ext w W → BnR (fun k => k < W.heap.size) (fun k => k < W.heap.size) W vb b := fun W hW => (hB.ext hW).weaken (fun k hk => Nat.lt_of_lt_of_le hk hW.size) (fun k hk => Nat.lt_of_lt_of_le hk hW.size)
  have HVA := Lib.hid (fun W (hW : Ext w W) => valid_x a va W (asc_ext htab hW) (hbA W hW) hla hsa)
  have HVB := Lib.hid (fun W (hW : Ext w W) => valid_x b vb W (asc_ext htab hW) (hbB W hW) hlb hsb)
  obtain ⟨aa, ac, rfl⟩ := hA.shape
  obtain ⟨ba, bc, rfl⟩ := hB.shape
  obtain ⟨b1, hb1⟩ : ∃ b1, vldB nmB a = b1 := ⟨_, rfl⟩
  obtain ⟨b2, hb2⟩ : ∃ b2, vldB nmB b = b2 := ⟨_, rfl⟩
  rw [hb1] at HVA
  rw [hb2] at HVB
  have HB1 := Lib.hid hb1
  have HB2 := Lib.hid hb2
  clear hZZ htab hA hB hbA hbB hsa hsb hb1 hb2
  go_enter Tryz.func33, Tryz.ntmps33
  go_wp2_with fail
  refine (HVA.out _ (Upd.refl _ _)).mono ?_
  rintro e w3 ⟨rfl, hw3⟩
  have HE3 := Lib.hid hw3
  clear hw3 HVA
  cases b1
  · obtain rfl : Z = ([], 1) := by rw [← HZZ.out]; exact cmpF_bad (by rw [HB1.out]; rfl)
    go_wp2_with fail
    all_goals go_ret2
    all_goals exact ⟨_, rfl, BnR.nil _ _ _, HE3.out⟩
  go_wp2_with fail
  refine (HVB.out _ HE3.out).mono ?_
  rintro e w4 ⟨rfl, hw4⟩
  have HE4 := Lib.hid (HE3.out.trans hw4)
  clear hw4 HVB HE3
  cases b2
  · obtain rfl : Z = ([], 1) := by rw [← HZZ.out]; exact cmpF_bad (by rw [HB2.out]; simp)
    go_wp2_with fail
    all_goals go_ret2
    all_goals exact ⟨_, rfl, BnR.nil _ _ _, HE4.out⟩
  have HVV : Hid ((vldB nmB a && vldB nmB b) = true) := Lib.hid (by rw [HB1.out, HB2.out]; rfl)
  have hla2 := (vldB_spec HB1.out).1
  have hlb2 := (vldB_spec HB2.out).1
  clear hla hlb
  go_wp2_with fail
  go_loopg [6, 25] a.length (fun gk ov iv wr => ∃ (k : Nat) (oa : Option Addr) (oc : Nat) (L : List Be), ov = .slice oa L.length oc ∧ iv = .int .i64 (k : Int) ∧ gk = a.length - k ∧ k ≤ a.length ∧ L.length ≤ k ∧ Hid (GaR w.heap.size wr (.slice oa L.length oc) L) ∧ Hid (Ext w wr) ∧ Hid (∀ j, j < k → (app1 nmB b (Go.Hw.bg a j).2.2).2 = 0) ∧ Hid (L.map (·.1) = ((a.take k).map (cm1 b)).filter fun f => !slfB f))
  case atStart => exact ⟨0, none, 0, [], rfl, rfl, rfl, Nat.zero_le _, Nat.le_refl _, Lib.hid (GaR.start _ _), HE4, Lib.hid (fun j hj => absurd hj (Nat.not_lt_zero _)), Lib.hid (by simp)⟩
  case round =>
    obtain ⟨k, oa, oc, L, rfl, rfl, rfl, hk, hLk, HG, HE, HOK, HLF⟩ := hrel
    by_cases hlt : k < a.length
    · obtain ⟨g, off, hga, _, hat⟩ := (HAA.out.ext HE.out).at_ (by omega)
      subst hga
      obtain ⟨xa, xc, p0, p1, p2, p3, p4, hkid⟩ := hat k hlt
      have z0 : (0 : Int) ≤ (k : Int) := by omega
      have z1 : (k : Int) < (a.length : Int) := by omega
      have z2 : decide ((k : Int) < (a.length : Int)) = true := decide_eq_true z1
      have z2' : decide (k < a.length) = true := decide_eq_true hlt
      have hxm := bg_mem hlt
      have hwx := ((vldB_spec HB1.out).2.2 _ hxm).2.2.1
      have htk := bg_take a k hlt
      have hap := uapply_x b (Go.Hw.bg a k).2.2 (.slice ba b.length bc) (tV (Go.Hw.bg a k).2.2 (.slice xa (Go.Hw.bg a k).2.2.kids.length xc)) (fun j => j < w.heap.size) (fun j => j < w.heap.size)
      have hbad : (app1 nmB b (Go.Hw.bg a k).2.2).2 ≠ 0 → Z = ([], (app1 nmB b (Go.Hw.bg a k).2.2).2) := fun h => by rw [← HZZ.out]; exact cmpF_fail HVV.out hlt HOK.out h
      have hgood : (app1 nmB b (Go.Hw.bg a k).2.2).2 = 0 → ∀ j, j < k + 1 → (app1 nmB b (Go.Hw.bg a j).2.2).2 = 0 := fun h j hj => by
        rcases Nat.lt_succ_iff_lt_or_eq.1 hj with h5 | h5
        · exact HOK.out j h5
        · rw [h5]; exact h
      obtain ⟨x, hx⟩ : ∃ x, Go.Hw.bg a k = x := ⟨_, rfl⟩
      rw [hx] at p0 p1 p2 p3 p4 hkid hxm hwx htk hap hbad hgood
      have hX5 := (Upd.refl (fun _ => False) wr).alloc (.cells #[.string x.1, .string x.2.1, .string x.2.2.name, .string x.2.2.sort, .slice xa x.2.2.kids.length xc] 93)
      have HBAD := Lib.hid hbad
      have HGOOD := Lib.hid hgood
      have HTK := Lib.hid htk
      have HXM := Lib.hid hxm
      have HB5 := Lib.hid (alloc0 wr (.cells #[.string x.1, .string x.2.1, .string x.2.2.name, .string x.2.2.sort, .slice xa x.2.2.kids.length xc] 93))
      have HX5 := Lib.hid hX5
      have HE5 := Lib.hid (HE.out.trans hX5)
      have HAP := Lib.hid (hap (wr.alloc (.cells #[.string x.1, .string x.2.1, .string x.2.2.name, .string x.2.2.sort, .slice xa x.2.2.kids.length xc] 93)) (asc_ext HTAB.out HE5.out) (HBB.out.ext HE5.out) (fun j hj => Nat.lt_of_lt_of_le hj HE5.out.size) ⟨xa, xc, rfl, (hkid.ext hX5).weaken (fun j hj => Nat.lt_of_lt_of_le hj HE5.out.size)⟩ HB2.out hwx)
      have y0 := cellRow HB5.out 0 (.string x.1) rfl
      have y1 := cellRow HB5.out 1 (.string x.2.1) rfl
      have y2 := cellRow HB5.out 2 (.string x.2.2.name) rfl
      have y3 := cellRow HB5.out 3 (.string x.2.2.sort) rfl
      have y4 := cellRow HB5.out 4 (.slice xa x.2.2.kids.length xc) rfl
      dsimp only [tV] at HAP
      obtain ⟨AP, hAP⟩ : ∃ P, app1 nmB b x.2.2 = P := ⟨_, rfl⟩
      rw [hAP] at HAP HBAD HGOOD
      have HAPE := Lib.hid hAP
      obtain ⟨z, en⟩ := AP
      simp only at HAP HBAD HGOOD
      clear hat hkid hxm hwx htk hap hbad hgood hx hX5 hAP
      go_wp2_with fail
      generalize hw5 : wr.alloc (.cells #[.string x.1, .string x.2.1, .string x.2.2.name, .string x.2.2.sort, .slice xa x.2.2.kids.length xc] 93) = w5 at *
      refine HAP.out.mono ?_
      rintro e w6 ⟨r6, B6, rfl, hT6, hb6, hw6⟩
      obtain ⟨ya, yc, hry⟩ := TlO.shape hT6
      subst hry
      have hX7 := hw6.alloc (.cells #[.string z.name, .string z.sort, .slice ya z.kids.length yc] 24)
      have HE7 := Lib.hid (HE5.out.trans hX7)
      have HX7 := Lib.hid (HX5.out.trans hX7)
      have HB7 := Lib.hid (hX7.heap HB5.out (fun h => h))
      have HC7 := Lib.hid (alloc0 w6 (.cells #[.string z.name, .string z.sort, .slice ya z.kids.length yc] 24))
      have HT7 := Lib.hid (hT6.read.ext ((Upd.refl (fun _ => False) w6).alloc (.cells #[.string z.name, .string z.sort, .slice ya z.kids.length yc] 24)))
      have HBX7 : Hid (∀ j, B6 j → wr.heap.size ≤ j ∧ j < (w6.alloc (.cells #[.string z.name, .string z.sort, .slice ya z.kids.length yc] 24)).heap.size) := Lib.hid (fun j hj => ⟨Nat.le_trans HX5.out.size (hb6 j hj).1, Nat.lt_of_lt_of_le (hb6 j hj).2 ((Upd.refl (fun _ => False) w6).alloc (.cells #[.string z.name, .string z.sort, .slice ya z.kids.length yc] 24)).size⟩)
      dsimp only [tV]
      clear hT6 hb6 hw6 hX7 HAP y0 y1 y2 y3 y4 p0 p1 p2 p3 p4 HB5
      by_cases hen : en = 0
      rotate_left
      · have t1 : (en == 0) = false := beq_eq_false_iff_ne.2 hen
        have t2 : decide (en = 0) = false := decide_eq_false hen
        obtain rfl : Z = ([], en) := HBAD.out hen
        clear hen
        go_wp2_with fail
        all_goals go_ret2
        all_goals exact ⟨_, rfl, BnR.nil _ _ _, HE7.out⟩
      subst hen
      have HOK2 := Lib.hid (HGOOD.out rfl)
      have hcm := cm_self HB1.out HB2.out HXM.out HAPE.out
      have hcz : cm1 b x = (x.1, x.2.1, z) := by unfold cm1; rw [(app1_ok HAPE.out).2.1]
      have HCZ := Lib.hid hcz
      have HIS := Lib.hid (fun W => is_x z ya yc x.1 x.2.1 W)
      have hsf : isB z x.1 x.2.1 = slfB (x.1, x.2.1, z) := hcm.1
      rw [hsf] at HIS
      have HTK2 : Hid (((a.take (k + 1)).map (cm1 b)).filter (fun f => !slfB f) = L.map (·.1) ++ (if slfB (x.1, x.2.1, z) = true then [] else [(x.1, x.2.1, z)])) := Lib.hid (by
        rw [HTK.out, List.map_append, List.filter_append, HLF.out, List.map_singleton, hcz]
        congr 1
        cases hs : slfB (x.1, x.2.1, z) <;> simp [List.filter, hs])
      obtain ⟨sf, hsf⟩ : ∃ b, slfB (x.1, x.2.1, z) = b := ⟨_, rfl⟩
      rw [hsf] at HIS HTK2
      dsimp only [tV] at HIS
      clear hcm hcz hsf HBAD HGOOD
      have y0 := cellRow HB7.out 0 (.string x.1) rfl
      have y1 := cellRow HB7.out 1 (.string x.2.1) rfl
      have y2 := cellRow HB7.out 2 (.string x.2.2.name) rfl
      have y3 := cellRow HB7.out 3 (.string x.2.2.sort) rfl
      have y4 := cellRow HB7.out 4 (.slice xa x.2.2.kids.length xc) rfl
      have u0 := cellRow HC7.out 0 (.string z.name) rfl
      have u1 := cellRow HC7.out 1 (.string z.sort) rfl
      have u2 := cellRow HC7.out 2 (.slice ya z.kids.length yc) rfl
      obtain ⟨nb, hnb⟩ : ∃ n, wr.heap.size = n := ⟨_, rfl⟩
      rw [hnb] at y0 y1 y2 y3 y4
      try rw [hnb]
      have HNB := Lib.hid hnb
      clear hnb
      go_wp2_with fail
      generalize hw7 : w6.alloc (.cells #[.string z.name, .string z.sort, .slice ya z.kids.length yc] 24) = w7 at *
      obtain ⟨nz, hnz⟩ : ∃ n, w6.heap.size = n := ⟨_, rfl⟩
      rw [hnz] at u0 u1 u2 HC7
      try rw [hnz]
      clear hnz
      refine (HIS.out _).mono ?_
      rintro e w8 ⟨rfl, hw8⟩
      have HE8 := Lib.hid (HE7.out.trans hw8)
      have HX8 := Lib.hid (HX7.out.trans hw8)
      have HB8 := Lib.hid (hw8.heap HB7.out (fun h => h))
      have HC8 := Lib.hid (hw8.heap HC7.out (fun h => h))
      have HT8 := Lib.hid (HT7.out.ext hw8)
      have HBX8 : Hid (∀ j, B6 j → wr.heap.size ≤ j ∧ j < w8.heap.size) := Lib.hid (fun j hj => ⟨(HBX7.out j hj).1, Nat.lt_of_lt_of_le (HBX7.out j hj).2 hw8.size⟩)
      clear hw8 HIS y0 y1 y2 y3 y4 u0 u1 u2
      cases sf with
      | true =>
        have HLF2 : Hid (L.map (·.1) = ((a.take (k + 1)).map (cm1 b)).filter fun f => !slfB f) := Lib.hid (by rw [HTK2.out]; simp)
        have HG8 := Lib.hid (HG.out.kept HX8.out (fun _ _ _ h => h))
        go_wp2_with fail
        go_roundg (a.length - (k + 1))
        case measure => omega
        case rel => exact ⟨k + 1, oa, oc, L, rfl, by go_num, rfl, by omega, by omega, HG8, HE8, HOK2, HLF2⟩
      | false =>
        have HB8' := HB8.out
        rw [HNB.out] at HB8'
        have y0 := cellRow HB8' 0 (.string x.1) rfl
        have y1 := cellRow HB8' 1 (.string x.2.1) rfl
        have y2 := cellRow HB8' 2 (.string x.2.2.name) rfl
        have y3 := cellRow HB8' 3 (.string x.2.2.sort) rfl
        have y4 := cellRow HB8' 4 (.slice xa x.2.2.kids.length xc) rfl
        have u0 := cellRow HC8.out 0 (.string z.name) rfl
        have u1 := cellRow HC8.out 1 (.string z.sort) rfl
        have u2 := cellRow HC8.out 2 (.slice ya z.kids.length yc) rfl
        have HOW8 := Lib.hid ((own_kept HG.out.own HX8.out (fun _ _ h => h)).alloc (.cells #[.string x.1, .string x.2.1, .string z.name, .string z.sort, .slice ya z.kids.length yc] 93))
        have hsz8 : w.heap.size ≤ (w8.alloc (.cells #[.string x.1, .string x.2.1, .string z.name, .string z.sort, .slice ya z.kids.length yc] 93)).heap.size := Nat.le_trans HE8.out.size ((Upd.refl (fun _ => False) w8).alloc (.cells #[.string x.1, .string x.2.1, .string z.name, .string z.sort, .slice ya z.kids.length yc] 93)).size
        obtain ⟨iT, hi, hz0, hz1, hz2⟩ := info_parts infoBd
        clear HB8'
        go_wp2_with (at_builtin; refine wpList_append_at _ rfl (.tmp 46) (.tmp 53) 27 rfl w.heap.size 93 iT (.agg #[.string ⟨#[]⟩, .string ⟨#[]⟩, .string ⟨#[]⟩, .string ⟨#[]⟩, .slice none 0 0]) 5 88 Tryz.underlying27 hi hz0 hz1 hz2 rfl (by decide) _ _ _ rfl HOW8.out _ 1 1 [Value.string x.1, .string x.2.1, .string z.name, .string z.sort, .slice ya z.kids.length yc] rfl rfl ?c1 ?c2 ?c3 ?c4 hsz8 ?_)
        case c1 => exact new5 w8 _ _ _ _ _ 93
        case c2 => intro u hu; simp at hu; rcases hu with h | h | h | h | h <;> (subst h; rfl)
        case c3 => unfold maxLen; omega
        case c4 => omega
        intro v9 w9 hG9
        obtain ⟨a9, c9, hv9⟩ := own_shape hG9.own
        subst hv9
        have hlen : (L ++ [((x.1, x.2.1, z), ya, z.kids.length, yc)]).length = L.length + 1 := by simp
        have HG9 := Lib.hid (HG.out.grow HE.out.size HX8.out (x := ((x.1, x.2.1, z), ya, z.kids.length, yc)) HT8.out HBX8.out hG9)
        have HU9 : Hid (Upd (fun j => (Value.slice oa L.length oc).ownBlock = some j) w8 w9) := Lib.hid ((((Upd.refl (fun _ => False) w8).alloc (.cells #[.string x.1, .string x.2.1, .string z.name, .string z.sort, .slice ya z.kids.length yc] 93)).mono (fun _ _ x => x.elim)).trans hG9.upd)
        have HE9 : Hid (Ext w w9) := Lib.hid (HE8.out.trans' HU9.out (fun j hj e => by have h1 := (HG.out.own.lt j e).1; omega))
        have HLF2 : Hid ((L ++ [((x.1, x.2.1, z), ya, z.kids.length, yc)]).map (·.1) = ((a.take (k + 1)).map (cm1 b)).filter fun f => !slfB f) := Lib.hid (by rw [HTK2.out, List.map_append]; simp)
        rw [← hlen] at HG9 ⊢
        clear hG9 hi hz0 hz1 hz2 hsz8 y0 y1 y2 y3 y4 u0 u1 u2
        go_wp2_with fail
        go_roundg (a.length - (k + 1))
        case measure => omega
        case rel => exact ⟨k + 1, a9, c9, _, rfl, by go_num, rfl, by omega, by rw [hlen]; omega, HG9, HE9, HOK2, HLF2⟩
    · obtain rfl : k = a.length := by omega
      have z2 : decide ((a.length : Int) < (a.length : Int)) = false := decide_eq_false (by omega)
      have hfull := cmpF_full HVV.out HOK.out
      rw [HZZ.out] at hfull
      have HFULL := Lib.hid hfull
      have HLA : Hid (L.map (·.1) = (a.map (cm1 b)).filter fun f => !slfB f) := Lib.hid (by rw [HLF.out, List.take_length])
      obtain ⟨L0, hL0⟩ : ∃ L0, L = L0 := ⟨_, rfl⟩
      subst hL0
      have HE0 := HE
      clear hfull HLF HE4
      go_wp2_with fail
      go_loopg [6, 58] b.length (fun gk ov iv wr2 => ∃ (k : Nat) (oa : Option Addr) (oc : Nat) (L2 : List Be), ov = .slice oa L2.length oc ∧ iv = .int .i64 (k : Int) ∧ gk = b.length - k ∧ k ≤ b.length ∧ L2.length ≤ a.length + k ∧ Hid (GaR w.heap.size wr2 (.slice oa L2.length oc) L2) ∧ Hid (Ext w wr2) ∧ Hid (L2.map (·.1) = L.map (·.1) ++ ((b.take k).filter fun x => (bget a x.1).isNone)))
      case atStart => exact ⟨0, oa, oc, L, rfl, rfl, rfl, Nat.zero_le _, by omega, HG, HE, Lib.hid (by simp)⟩
      case round =>
        clear HG HE0
        rename_i hrel0
        obtain ⟨k, oa, oc, L2, rfl, rfl, rfl, hk, hLk, HG, HE, HLF⟩ := hrel
        by_cases hlt : k < b.length
        · obtain ⟨g, off, hga, _, hat⟩ := (HBB.out.ext HE.out).at_ (by omega)
          subst hga
          obtain ⟨xa, xc, p0, p1, p2, p3, p4, hkid⟩ := hat k hlt
          have z0 : (0 : Int) ≤ (k : Int) := by omega
          have z1 : (k : Int) < (b.length : Int) := by omega
          have z2 : decide ((k : Int) < (b.length : Int)) = true := decide_eq_true z1
          have z2' : decide (k < b.length) = true := decide_eq_true hlt
          have htk := bg_take b k hlt
          have hwx := wf_size ((vldB_spec HB2.out).2.2 _ (bg_mem hlt)).2.2.1
          obtain ⟨x, hx⟩ : ∃ x, Go.Hw.bg b k = x := ⟨_, rfl⟩
          rw [hx] at p0 p1 p2 p3 p4 hkid htk hwx
          have hX5 := (Upd.refl (fun _ => False) wr).alloc (.cells #[.string x.1, .string x.2.1, .string x.2.2.name, .string x.2.2.sort, .slice xa x.2.2.kids.length xc] 93)
          have HB5 := Lib.hid (alloc0 wr (.cells #[.string x.1, .string x.2.1, .string x.2.2.name, .string x.2.2.sort, .slice xa x.2.2.kids.length xc] 93))
          have HX5 := Lib.hid hX5
          have HE5 := Lib.hid (HE.out.trans hX5)
          have HKD := Lib.hid hkid
          have HWX := Lib.hid hwx
          have HBS := Lib.hid (bsB_x a (.slice aa a.length ac) x.1 _ _ (wr.alloc (.cells #[.string x.1, .string x.2.1, .string x.2.2.name, .string x.2.2.sort, .slice xa x.2.2.kids.length xc] 93)) (HAA.out.ext HE5.out) (vldB_spec HB1.out).2.1 (by omega))
          have htk2 : (b.take (k + 1)).filter (fun x => (bget a x.1).isNone) = (b.take k).filter (fun x => (bget a x.1).isNone) ++ (if (bget a x.1).isSome = true then [] else [x]) := by
            rw [htk, List.filter_append]
            congr 1
            cases hb : bget a x.1 <;> simp [List.filter, hb]
          have HTK2 := Lib.hid htk2
          obtain ⟨F, hF⟩ : ∃ F, (bget a x.1).isSome = F := ⟨_, rfl⟩
          rw [hF] at HBS HTK2
          have y0 := cellRow HB5.out 0 (.string x.1) rfl
          have y1 := cellRow HB5.out 1 (.string x.2.1) rfl
          have y2 := cellRow HB5.out 2 (.string x.2.2.name) rfl
          have y3 := cellRow HB5.out 3 (.string x.2.2.sort) rfl
          have y4 := cellRow HB5.out 4 (.slice xa x.2.2.kids.length xc) rfl
          clear hat hkid htk htk2 hwx hx hX5 hF
          go_wp2_with fail
          generalize hw5 : wr.alloc (.cells #[.string x.1, .string x.2.1, .string x.2.2.name, .string x.2.2.sort, .slice xa x.2.2.kids.length xc] 93) = w5 at *
          obtain ⟨nb, hnb⟩ : ∃ n, wr.heap.size = n := ⟨_, rfl⟩
          rw [hnb] at y0 y1 y2 y3 y4 HB5
          try rw [hnb]
          clear hnb
          refine HBS.out.mono ?_
          rintro e w6 ⟨rfl, hw6⟩
          have HE6 := Lib.hid (HE5.out.trans hw6)
          have HX6 := Lib.hid (HX5.out.trans hw6)
          have HB6 := Lib.hid (hw6.heap HB5.out (fun h => h))
          have HG6 := Lib.hid (HG.out.kept HX6.out (fun _ _ _ h => h))
          clear hw6 HBS y0 y1 y2 y3 y4 p0 p1 p2 p3 p4 HB5
          cases F with
          | true =>
            have HLF2 : Hid (L2.map (·.1) = L.map (·.1) ++ ((b.take (k + 1)).filter fun x => (bget a x.1).isNone)) := Lib.hid (by rw [HTK2.out, HLF.out]; simp)
            go_wp2_with fail
            go_roundg (b.length - (k + 1))
            case measure => omega
            case rel => exact ⟨k + 1, oa, oc, L2, rfl, by go_num, rfl, by omega, by omega, HG6, HE6, HLF2⟩
          | false =>
            have y0 := cellRow HB6.out 0 (.string x.1) rfl
            have y1 := cellRow HB6.out 1 (.string x.2.1) rfl
            have y2 := cellRow HB6.out 2 (.string x.2.2.name) rfl
            have y3 := cellRow HB6.out 3 (.string x.2.2.sort) rfl
            have y4 := cellRow HB6.out 4 (.slice xa x.2.2.kids.length xc) rfl
            have HCP := Lib.hid (fun W (hW : Ext w6 W) => ucopied_x x.2.2 (tV x.2.2 (.slice xa x.2.2.kids.length xc)) (fun j => j < w.heap.size) W ⟨xa, xc, rfl, HKD.out.ext (HX6.out.trans hW)⟩ (fun j hj => Nat.lt_of_lt_of_le hj (Nat.le_trans HE6.out.size hW.size)) (by have := HWX.out; omega))
            dsimp only [tV] at HCP
            have HW5 : Hid (Ext w6 w6) := Lib.hid (Upd.refl _ _)
            have HLL : Hid (L2.length ≤ 2000) := Lib.hid (by omega)
            obtain ⟨iT, hi, hz0, hz1, hz2⟩ := info_parts infoBd
            go_wp2_with fail
            go_region_law (first
              | (refine step_append_at _ (.tmp 71) (.tmp 80) 27 rfl w.heap.size 93 iT (.agg #[.string ⟨#[]⟩, .string ⟨#[]⟩, .string ⟨#[]⟩, .string ⟨#[]⟩, .slice none 0 0]) 5 88 Tryz.underlying27 hi hz0 hz1 hz2 rfl (by decide) _ _ _ rfl HOW6.out _ 1 1 [Value.string x.1, .string x.2.1, .string x.2.2.name, .string x.2.2.sort, .slice ya x.2.2.kids.length yc] rfl rfl HNEW.out HONE.out HLM.out.1 HLM.out.2.1 HLM.out.2.2 ?_; intro v7 w8 hG7; obtain ⟨a7, c7, hv7⟩ := own_shape hG7.own; subst hv7; have HG7 := Lib.hid hG7; clear hG7)
              | (go_simp; refine (HCP.out w6.drew HW5.out.drew).mono ?_; rintro e3 w7 ⟨r, Bx, rfl, hT6, hb6, hw6⟩; obtain ⟨ya, yc, hry⟩ := TlO.shape hT6; subst hry; have HW6 : Hid (Ext w6 w7) := Lib.hid (((Upd.refl (fun _ => False) w6).drewN' 1).trans hw6); have HT6 := Lib.hid hT6.read; have HBX6 : Hid (∀ j, Bx j → w6.heap.size ≤ j ∧ j < w7.heap.size) := Lib.hid hb6; have HOW6 : Hid ((w7.alloc (.cells #[.string x.1, .string x.2.1, .string x.2.2.name, .string x.2.2.sort, .slice ya x.2.2.kids.length yc] 93)).ownsRow w.heap.size 93 5 (.slice oa L2.length oc) L2.length (L2.flatMap beEnc)) := Lib.hid ((own_kept HG6.out.own HW6.out (fun _ _ h => h)).alloc _); have HNEW : Hid (∀ (j : Nat) (u : Value), [Value.string x.1, .string x.2.1, .string x.2.2.name, .string x.2.2.sort, .slice ya x.2.2.kids.length yc][j]? = some u → (w7.alloc (.cells #[.string x.1, .string x.2.1, .string x.2.2.name, .string x.2.2.sort, .slice ya x.2.2.kids.length yc] 93)).cell? ((⟨w7.heap.size, 0, none⟩ : Addr).add j) = some u) := Lib.hid (new5 w7 _ _ _ _ _ 93); have HONE : Hid (∀ u ∈ [Value.string x.1, .string x.2.1, .string x.2.2.name, .string x.2.2.sort, .slice ya x.2.2.kids.length yc], u.oneCell' = true) := Lib.hid (fun u hu => by simp at hu; rcases hu with h | h | h | h | h <;> (subst h; rfl)); have HLM : Hid (L2.length + 1 ≤ maxLen ∧ (L2.length + 1) * 88 ≤ 140737488355328 ∧ w.heap.size ≤ (w7.alloc (.cells #[.string x.1, .string x.2.1, .string x.2.2.name, .string x.2.2.sort, .slice ya x.2.2.kids.length yc] 93)).heap.size) := Lib.hid ⟨by unfold maxLen; have := HLL.out; omega, by have := HLL.out; omega, by have h1 := HW6.out.size; have h2 := HE6.out.size; simp; omega⟩; have d0 := HW6.out.cell y0 (fun h => h); have d1 := HW6.out.cell y1 (fun h => h); have d2 := HW6.out.cell y2 (fun h => h); have d3 := HW6.out.cell y3 (fun h => h); have d4 := HW6.out.cell y4 (fun h => h); clear hT6 hb6 hw6 HCP))
            all_goals
              go_wp2_with fail
              try go_frame
              have hlen : (L2 ++ [((x, ya, x.2.2.kids.length, yc) : Be)]).length = L2.length + 1 := by simp
              have HG8 := Lib.hid (HG6.out.grow HE6.out.size HW6.out (x := (x, ya, x.2.2.kids.length, yc)) HT6.out HBX6.out HG7.out)
              have HU8 : Hid (Upd (fun j => (Value.slice oa L2.length oc).ownBlock = some j) w6 w8) := Lib.hid (((HW6.out.alloc (.cells #[.string x.1, .string x.2.1, .string x.2.2.name, .string x.2.2.sort, .slice ya x.2.2.kids.length yc] 93)).mono (fun _ _ x => x.elim)).trans HG7.out.upd)
              have HE8 : Hid (Ext w w8) := Lib.hid (HE6.out.trans' HU8.out (fun j hj e => by have h1 := (HG6.out.own.lt j e).1; omega))
              have HLF2 : Hid ((L2 ++ [((x, ya, x.2.2.kids.length, yc) : Be)]).map (·.1) = L.map (·.1) ++ ((b.take (k + 1)).filter fun x => (bget a x.1).isNone)) := Lib.hid (by rw [HTK2.out, List.map_append, HLF.out]; simp)
              rw [← hlen] at HG8 ⊢
              clear hi hz0 hz1 hz2
              go_roundg (b.length - (k + 1))
              case measure => omega
              case rel => exact ⟨k + 1, a7, c7, _, rfl, by go_num, rfl, by omega, by rw [hlen]; omega, HG8, HE8, HLF2⟩
        · obtain rfl : k = b.length := by omega
          have z2 : decide ((b.length : Int) < (b.length : Int)) = false := decide_eq_false (by omega)
          have hfil : L2.map (·.1) = (cmX a b).filter fun f => !slfB f := by
            rw [HLF.out, List.take_length, HLA.out, cmX_filter HB2.out]
          have hlq : L2.length = (srtB (cmX a b)).length := by
            rw [srtB_len, ← hfil, List.length_map]
          have hfu := HFULL.out
          rw [← hlq] at hfu
          have HFIL := Lib.hid hfil
          by_cases hbig : 1000 < L2.length
          · have t1 : decide ((1000 : Int) < (L2.length : Int)) = true := decide_eq_true (by omega)
            have t1' : (1000 : Int) < (L2.length : Int) := by omega
            obtain rfl : Z = ([], 4) := by rw [hfu, if_pos hbig]
            clear hfil hlq hfu hbig
            go_wp2_with fail
            all_goals go_ret2
            all_goals exact ⟨_, rfl, BnR.nil _ _ _, HE.out⟩
          have t1 : decide ((1000 : Int) < (L2.length : Int)) = false := decide_eq_false (by omega)
          have t1' : ¬ (1000 : Int) < (L2.length : Int) := by omega
          rw [if_neg hbig] at hfu
          have HFU := Lib.hid hfu
          have hdist : L2.Pairwise fun x y => x.1.1 ≠ y.1.1 := by
            have h1 := (cmX_dist HB1.out HB2.out).filter (fun f => !slfB f)
            rw [← hfil, List.pairwise_map] at h1
            exact h1
          have HST := Lib.hid (fun W (hW : Ext wr W) => sortB98_x L2 w.heap.size (.slice oa L2.length oc) W (own_kept HG.out.own hW (fun _ _ h => h)) hdist (by omega))
          clear hfil hlq hfu hbig hdist
          go_wp2_with fail
          refine (HST.out _ (Upd.refl _ _)).mono ?_
          rintro e w8 ⟨rfl, L', ha, hperm, hF, hu⟩
          have HBN := Lib.hid (HG.out.bn hperm hF hu)
          have hls : L'.map (·.1) = srtB (cmX a b) := srt_of HB1.out HB2.out (by
            unfold AscK at ha ⊢
            rw [List.pairwise_map]
            exact ha) (fun f => by rw [(hperm.map (·.1)).mem_iff, HFIL.out])
          rw [hls] at HBN
          have hL' : L'.length = L2.length := hperm.length_eq
          have HE8 : Hid (Ext w w8) := Lib.hid (HE.out.trans' hu (fun j hj e => by have h1 := (HG.out.own.lt j e).1; omega))
          clear ha hperm hF hu HST hls
          go_wp2_with fail
          go_ret2
          have hzz := HFU.out
          subst hzz
          exact ⟨_, rfl, HBN.out, HE8.out⟩

end Go.Proofs.YtlkcjmaiahnodaaGreatDoor

/- add, of the reference. -/
namespace Go.Proofs.YtlkcjmaiahnodaaGreatDoor
open Go.RowKit Go.Hw Go
set_option linter.unusedVariables false
set_option linter.unusedSimpArgs false

open Tm Go.Sort Go.Proofs Go.ChangeMaps
theorem be_cells : ∀ L : List Be, bCells (L.map (·.1)) (L.map beV) = L.flatMap beEnc
  | [] => rfl
  | x :: L => by rw [List.map_cons, List.map_cons, List.flatMap_cons]; simp only [bCells, List.headD_cons, List.tail_cons, be_cells L, beEnc, List.cons_append, List.nil_append]
theorem bn_of {R S : Nat → Prop} {w : World} {v : Value} {L : List Be} (h : SlR R w 5 v L.length (L.flatMap beEnc)) (hk : ∀ y ∈ L, TlR S w y.1.2.2.kids (beV y)) : BnR R S w v (L.map (·.1)) := by
  refine ⟨L.map beV, by simp, by rw [be_cells, List.length_map]; exact h, fun i hi => ?_⟩
  have hi' : i < L.length := by simpa using hi
  have e1 : Go.Hw.bg (L.map (·.1)) i = (L[i]).1 := by
    unfold Go.Hw.bg
    rw [List.getD_eq_getElem?_getD, List.getElem?_map, List.getElem?_eq_getElem hi']
    rfl
  have e2 : ug (L.map beV) i = beV L[i] := by
    unfold ug
    rw [List.getD_eq_getElem?_getD, List.getElem?_map, List.getElem?_eq_getElem hi']
    rfl
  rw [e1, e2]
  exact hk _ (List.getElem_mem hi')
theorem addB_none {x : Bd} : ∀ {l : List Bd}, (∀ c ∈ l, blt x.1 c.1 = false) → addB l x = l ++ [x]
  | [], _ => rfl
  | c :: l, h => by
    unfold addB
    rw [if_neg (by rw [h c (List.mem_cons_self ..)]; simp), addB_none (fun d hd => h d (List.mem_cons_of_mem _ hd))]
    rfl
theorem addB_first {x c : Bd} : ∀ {l : List Bd}, (∀ d ∈ l, blt x.1 d.1 = false) → blt x.1 c.1 = true → addB (l ++ [c]) x = l ++ [x, c]
  | [], _, h2 => by
    unfold addB
    rw [List.nil_append]
    simp only
    rw [if_pos h2]
    rfl
  | d :: l, h1, h2 => by
    rw [List.cons_append]
    unfold addB
    rw [if_neg (by rw [h1 d (List.mem_cons_self ..)]; simp), addB_first (fun e he => h1 e (List.mem_cons_of_mem _ he)) h2]
    rfl
theorem addB_done {x c : Bd} : ∀ {l : List Bd}, (∃ d ∈ l, blt x.1 d.1 = true) → addB (l ++ [c]) x = addB l x ++ [c]
  | [], h => by obtain ⟨d, hd, _⟩ := h; cases hd
  | d :: l, h => by
    rw [List.cons_append]
    unfold addB
    by_cases hd : blt x.1 d.1 = true
    · rw [if_pos hd, if_pos hd]; rfl
    · rw [if_neg hd, if_neg hd, addB_done (by
        obtain ⟨e, he, h2⟩ := h
        rcases List.mem_cons.1 he with h3 | h3
        · rw [h3] at h2; exact absurd h2 hd
        · exact ⟨e, h3, h2⟩)]
      rfl
def adP (x : Bd) (l : List Bd) (done : Bool) : List Bd := if done = true then addB l x else l
set_option maxRecDepth 100000 in
set_option maxHeartbeats 2000000 in
theorem itself_x (x : Bd) (xa : Option Addr) (xc : Nat) (w : World) : Calls Tryz.prog 137 #[(.agg #[.string x.1, .string x.2.1, .string x.2.2.name, .string x.2.2.sort, .slice xa x.2.2.kids.length xc])] w fun e w' => e = .returned (.bool (itsB x)) ∧ Ext w w' := by
  have HE := Lib.hid ((Upd.refl (fun _ => False) w).alloc (.cells #[.string x.1, .string x.2.1, .string x.2.2.name, .string x.2.2.sort, .slice xa x.2.2.kids.length xc] 93))
  have hb := alloc0 w (.cells #[.string x.1, .string x.2.1, .string x.2.2.name, .string x.2.2.sort, .slice xa x.2.2.kids.length xc] 93)
  have y0 := cellRow hb 0 (.string x.1) rfl
  have y1 := cellRow hb 1 (.string x.2.1) rfl
  have y2 := cellRow hb 2 (.string x.2.2.name) rfl
  have y3 := cellRow hb 3 (.string x.2.2.sort) rfl
  have y4 := cellRow hb 4 (.slice xa x.2.2.kids.length xc) rfl
  have s0 := emp_dec x.2.2.sort
  have s1 := str_dc x.2.2.name x.1
  have HI : Hid (itsB x = (!decide (x.2.2.sort = nul) && decide (x.2.2.name = x.1))) := Lib.hid rfl
  generalize itsB x = R at *
  generalize decide (x.2.2.sort = nul) = d0 at *
  generalize decide (x.2.2.name = x.1) = d1 at *
  clear hb
  go_enter Tryz.func137, Tryz.ntmps137
  cases d0 with
  | true =>
    obtain rfl : R = false := HI.out
    go_wp2_with fail
    go_ret
    exact ⟨rfl, HE.out⟩
  | false =>
    obtain rfl : R = d1 := HI.out
    go_wp2_with fail
    go_ret
    exact ⟨rfl, HE.out⟩
set_option maxRecDepth 100000 in
set_option maxHeartbeats 2000000 in
theorem add05_x (l : List Bd) (x : Bd) (v : Value) (xa : Option Addr) (xc : Nat) (R S T : Nat → Prop) (w : World) (hL : BnR R S w v l) (hX : TlR T w x.2.2.kids (.slice xa x.2.2.kids.length xc)) (hl : l.length ≤ 1000000) :
    Calls Tryz.prog 68 #[v, (.agg #[.string x.1, .string x.2.1, .string x.2.2.name, .string x.2.2.sort, .slice xa x.2.2.kids.length xc])] w fun e w' => ∃ r, e = .returned r ∧ BnR (fun k => R k ∨ (w.heap.size ≤ k ∧ k < w'.heap.size)) (fun k => S k ∨ T k) w' r (if itsB x = true then l else addB l x) ∧ Ext w w' := by
  have HL := Lib.hid hL
  have HX := Lib.hid hX
  obtain ⟨va, vc, rfl⟩ := hL.shape
  obtain ⟨Z, hZ⟩ : ∃ Z, (if itsB x = true then l else addB l x) = Z := ⟨_, rfl⟩
  rw [hZ]
  have HZZ := Lib.hid hZ
  have HIT := Lib.hid (fun W => itself_x x xa xc W)
  have HE0 := Lib.hid ((Upd.refl (fun _ => False) w).alloc (.cells #[.string x.1, .string x.2.1, .string x.2.2.name, .string x.2.2.sort, .slice xa x.2.2.kids.length xc] 93))
  have HB0 := Lib.hid (alloc0 w (.cells #[.string x.1, .string x.2.1, .string x.2.2.name, .string x.2.2.sort, .slice xa x.2.2.kids.length xc] 93))
  have HS0 : Hid (w.heap.size + 1 ≤ (w.alloc (.cells #[.string x.1, .string x.2.1, .string x.2.2.name, .string x.2.2.sort, .slice xa x.2.2.kids.length xc] 93)).heap.size) := Lib.hid (by simp)
  have y0 := cellRow HB0.out 0 (.string x.1) rfl
  have y1 := cellRow HB0.out 1 (.string x.2.1) rfl
  have y2 := cellRow HB0.out 2 (.string x.2.2.name) rfl
  have y3 := cellRow HB0.out 3 (.string x.2.2.sort) rfl
  have y4 := cellRow HB0.out 4 (.slice xa x.2.2.kids.length xc) rfl
  obtain ⟨it, hit⟩ : ∃ b, itsB x = b := ⟨_, rfl⟩
  rw [hit] at HIT HZZ
  clear hL hX hZ hit
  go_enter Tryz.func68, Tryz.ntmps68
  go_wp2_with fail
  generalize w.alloc (.cells #[.string x.1, .string x.2.1, .string x.2.2.name, .string x.2.2.sort, .slice xa x.2.2.kids.length xc] 93) = w1 at *
  refine (HIT.out _).mono ?_
  rintro e w2 ⟨rfl, hw2⟩
  have HE2 := Lib.hid (HE0.out.trans hw2)
  have HB2 := Lib.hid (hw2.heap HB0.out (fun h => h))
  have HS2 : Hid (w.heap.size + 1 ≤ w2.heap.size) := Lib.hid (Nat.le_trans HS0.out hw2.size)
  clear hw2 HIT HE0 HB0 HS0 y0 y1 y2 y3 y4
  cases it
  rotate_left
  · have hz := HZZ.out
    rw [if_pos rfl] at hz
    subst hz
    clear HZZ
    go_wp2_with fail
    go_ret
    exact ⟨_, rfl, (HL.out.ext HE2.out).weaken (fun k hk => .inl hk) (fun k hk => .inl hk), HE2.out⟩
  have hz := HZZ.out
  rw [if_neg (by decide)] at hz
  have HZ2 := Lib.hid hz
  clear HZZ hz
  go_wp2_with fail
  go_loopg [5, 6, 7] l.length (fun gk ov dv iv wr => ∃ (k : Nat) (done : Bool) (oa : Option Addr) (oc : Nat) (L : List Be), ov = .slice oa L.length oc ∧ dv = .bool done ∧ iv = .int .i64 (k : Int) ∧ gk = l.length - k ∧ k ≤ l.length ∧ L.length ≤ k + 1 ∧ Hid (wr.ownsRow (w.heap.size + 1) 93 5 (.slice oa L.length oc) L.length (L.flatMap beEnc)) ∧ Hid (Ext w wr) ∧ Hid (wr.heap[w.heap.size]? = some (.cells #[.string x.1, .string x.2.1, .string x.2.2.name, .string x.2.2.sort, .slice xa x.2.2.kids.length xc] 93 (0, 0))) ∧ Hid (∀ y ∈ L, TlR (fun k => S k ∨ T k) w y.1.2.2.kids (beV y)) ∧ Hid (L.map (·.1) = adP x (l.take k) done) ∧ Hid (if done = true then ∃ c ∈ l.take k, blt x.1 c.1 = true else ∀ c ∈ l.take k, blt x.1 c.1 = false))
  case atStart => exact ⟨0, false, none, 0, [], rfl, rfl, rfl, rfl, Nat.zero_le _, by simp, Lib.hid ⟨rfl, .inl ⟨rfl, rfl⟩⟩, HE2, HB2, Lib.hid (fun y hy => by cases hy), Lib.hid (by simp [adP]), Lib.hid (by simp)⟩
  case round =>
    clear HE2 HB2 HS2
    obtain ⟨k, done, oa, oc, L, rfl, rfl, rfl, rfl, hk, hLk, HO, HE, HB, HK, HP, HD⟩ := hrel
    have HSW : Hid (w.heap.size + 1 ≤ wr.heap.size) := Lib.hid (Array.getElem?_eq_some_iff.1 HB.out).1
    have y0 := cellRow HB.out 0 (.string x.1) rfl
    have y1 := cellRow HB.out 1 (.string x.2.1) rfl
    have y2 := cellRow HB.out 2 (.string x.2.2.name) rfl
    have y3 := cellRow HB.out 3 (.string x.2.2.sort) rfl
    have y4 := cellRow HB.out 4 (.slice xa x.2.2.kids.length xc) rfl
    by_cases hlt : k < l.length
    · obtain ⟨g, off, hga, _, hat⟩ := HL.out.at_ (by omega)
      subst hga
      obtain ⟨ca, cc, r0, r1, r2, r3, r4, hkid⟩ := hat k hlt
      have z0 : (0 : Int) ≤ (k : Int) := by omega
      have z1 : (k : Int) < (l.length : Int) := by omega
      have z2 : decide ((k : Int) < (l.length : Int)) = true := decide_eq_true z1
      have z2' : decide (k < l.length) = true := decide_eq_true hlt
      have htk := bg_take l k hlt
      obtain ⟨c, hc⟩ : ∃ c, Go.Hw.bg l k = c := ⟨_, rfl⟩
      rw [hc] at r0 r1 r2 r3 r4 hkid htk
      have HRC := Lib.hid (And.intro r0 (And.intro r1 (And.intro r2 (And.intro r3 r4))))
      have p0 := HE.out.cell r0 (fun h => h)
      have p1 := HE.out.cell r1 (fun h => h)
      have p2 := HE.out.cell r2 (fun h => h)
      have p3 := HE.out.cell r3 (fun h => h)
      have p4 := HE.out.cell r4 (fun h => h)
      have HTK := Lib.hid htk
      have HKI := Lib.hid (hkid.weaken (fun k hk => (.inl hk : S k ∨ T k)))
      have HXI := Lib.hid (HX.out.weaken (fun k hk => (.inr hk : S k ∨ T k)))
      have hbl := bless x.1 c.1
      obtain ⟨bl, hbl2⟩ : ∃ b, blt x.1 c.1 = b := ⟨_, rfl⟩
      rw [hbl2] at hbl
      have HBL := Lib.hid hbl2
      clear hat hc hkid htk r0 r1 r2 r3 r4 hbl2
      have hcons : Hid (∀ y ∈ L ++ [((c, ca, c.2.2.kids.length, cc) : Be)], TlR (fun k => S k ∨ T k) w y.1.2.2.kids (beV y)) := Lib.hid (fun y hy => by
        rcases List.mem_append.1 hy with hy | hy
        · exact HK.out y hy
        · rw [List.mem_singleton] at hy; subst hy; exact HKI.out)
      cases done with
      | true =>
        have HPF : Hid ((L ++ [((c, ca, c.2.2.kids.length, cc) : Be)]).map (·.1) = adP x (l.take (k + 1)) true) := Lib.hid (by
          have hd := HD.out
          rw [if_pos rfl] at hd
          rw [List.map_append, HP.out, HTK.out]
          unfold adP
          rw [if_pos rfl, if_pos rfl, addB_done hd]
          rfl)
        have HDF : Hid (if true = true then ∃ c ∈ l.take (k + 1), blt x.1 c.1 = true else ∀ c ∈ l.take (k + 1), blt x.1 c.1 = false) := Lib.hid (by
          have hd := HD.out
          rw [if_pos rfl] at hd ⊢
          obtain ⟨d, hd1, hd2⟩ := hd
          exact ⟨d, by rw [HTK.out]; exact List.mem_append_left _ hd1, hd2⟩)
        have HKF := hcons
        go_wp2_with fail
        go_quiet (fail)
        have HEQ := Lib.hid (HE.out.drewN' nq)
        have HOQ : Hid ((wr.drewN nq).ownsRow (w.heap.size + 1) 93 5 (.slice oa L.length oc) L.length (L.flatMap beEnc)) := Lib.hid (own_kept HO.out ((Upd.refl (fun _ => False) wr).drewN' nq) (fun _ _ h => h))
        have HBQ := Lib.hid (((Upd.refl (fun _ => False) wr).drewN' nq).heap HB.out (fun h => h))
        have HSQ : Hid (w.heap.size + 1 ≤ (wr.drewN nq).heap.size) := Lib.hid HSW.out
        have q0 := ((Upd.refl (fun _ => False) wr).drewN' nq).cell p0 (fun h => h)
        have q1 := ((Upd.refl (fun _ => False) wr).drewN' nq).cell p1 (fun h => h)
        have q2 := ((Upd.refl (fun _ => False) wr).drewN' nq).cell p2 (fun h => h)
        have q3 := ((Upd.refl (fun _ => False) wr).drewN' nq).cell p3 (fun h => h)
        have q4 := ((Upd.refl (fun _ => False) wr).drewN' nq).cell p4 (fun h => h)
        clear p0 p1 p2 p3 p4 y0 y1 y2 y3 y4
        generalize wr.drewN nq = w5 at *
        have HOW6 := Lib.hid (World.ownsRow.alloc HOQ.out (.cells #[.string c.1, .string c.2.1, .string c.2.2.name, .string c.2.2.sort, .slice ca c.2.2.kids.length cc] 93))
        have hsz6 : w.heap.size + 1 ≤ (w5.alloc (.cells #[.string c.1, .string c.2.1, .string c.2.2.name, .string c.2.2.sort, .slice ca c.2.2.kids.length cc] 93)).heap.size := Nat.le_trans HSQ.out ((Upd.refl (fun _ => False) w5).alloc (.cells #[.string c.1, .string c.2.1, .string c.2.2.name, .string c.2.2.sort, .slice ca c.2.2.kids.length cc] 93)).size
        obtain ⟨iT, hi, hz0, hz1, hz2⟩ := info_parts infoBd
        go_wp2_with (at_builtin; refine wpList_append_at _ rfl (.tmp 33) (.tmp 38) 27 rfl (w.heap.size + 1) 93 iT (.agg #[.string ⟨#[]⟩, .string ⟨#[]⟩, .string ⟨#[]⟩, .string ⟨#[]⟩, .slice none 0 0]) 5 88 Tryz.underlying27 hi hz0 hz1 hz2 rfl (by decide) _ _ _ rfl HOW6.out _ 1 1 [Value.string c.1, .string c.2.1, .string c.2.2.name, .string c.2.2.sort, .slice ca c.2.2.kids.length cc] rfl rfl ?c1a ?c2a ?c3a ?c4a hsz6 ?_)
        case c1a => exact new5 w5 _ _ _ _ _ 93
        case c2a => intro u hu; simp at hu; rcases hu with h | h | h | h | h <;> (subst h; rfl)
        case c3a => unfold maxLen; omega
        case c4a => omega
        intro v6 w6 hG6
        obtain ⟨a6, c6, hv6⟩ := own_shape hG6.own
        subst hv6
        have hlen6 : (L ++ [((c, ca, c.2.2.kids.length, cc) : Be)]).length = L.length + 1 := by simp
        have HG6 : Hid (w6.ownsRow (w.heap.size + 1) 93 5 (.slice a6 (L.length + 1) c6) (L ++ [((c, ca, c.2.2.kids.length, cc) : Be)]).length ((L ++ [((c, ca, c.2.2.kids.length, cc) : Be)]).flatMap beEnc)) := Lib.hid (by
          rw [hlen6, List.flatMap_append]
          simpa using hG6.own)
        have HU6 : Hid (Upd (fun j => (Value.slice oa L.length oc).ownBlock = some j) w5 w6) := Lib.hid ((((Upd.refl (fun _ => False) w5).alloc (.cells #[.string c.1, .string c.2.1, .string c.2.2.name, .string c.2.2.sort, .slice ca c.2.2.kids.length cc] 93)).mono (fun _ _ x => x.elim)).trans hG6.upd)
        have HE6 : Hid (Ext w w6) := Lib.hid (HEQ.out.trans' HU6.out (fun j hj e => by have h1 := (HO.out.lt j e).1; omega))
        have HB6 := Lib.hid (HU6.out.heap HBQ.out (fun e => by have h1 := (HO.out.lt _ e).1; omega))
        have HG6F := HG6
        rw [← hlen6] at HG6F ⊢
        clear hi hz0 hz1 hz2
        go_wp2_with fail
        go_roundg (l.length - (k + 1))
        case measure => omega
        case rel => exact ⟨k + 1, true, a6, c6, _, rfl, rfl, by go_num, rfl, by omega, by rw [hlen6]; omega, HG6F, HE6, HB6, HKF, HPF, HDF⟩
      | false =>
        have hd := HD.out
        rw [if_neg (by decide)] at hd
        have HD0 := Lib.hid hd
        clear hd
        cases bl with
        | false =>
          have HPF : Hid ((L ++ [((c, ca, c.2.2.kids.length, cc) : Be)]).map (·.1) = adP x (l.take (k + 1)) false) := Lib.hid (by
            rw [List.map_append, HP.out, HTK.out]
            unfold adP
            rw [if_neg (by decide), if_neg (by decide)]
            rfl)
          have HDF : Hid (if false = true then ∃ c ∈ l.take (k + 1), blt x.1 c.1 = true else ∀ c ∈ l.take (k + 1), blt x.1 c.1 = false) := Lib.hid (by
            rw [if_neg (by decide)]
            intro d hd
            rw [HTK.out, List.mem_append, List.mem_singleton] at hd
            rcases hd with hd | hd
            · exact HD0.out d hd
            · rw [hd]; exact HBL.out)
          have HKF := hcons
          go_wp2_with fail
          go_quiet (fail)
          have HEQ := Lib.hid (HE.out.drewN' nq)
          have HOQ : Hid ((wr.drewN nq).ownsRow (w.heap.size + 1) 93 5 (.slice oa L.length oc) L.length (L.flatMap beEnc)) := Lib.hid (own_kept HO.out ((Upd.refl (fun _ => False) wr).drewN' nq) (fun _ _ h => h))
          have HBQ := Lib.hid (((Upd.refl (fun _ => False) wr).drewN' nq).heap HB.out (fun h => h))
          have HSQ : Hid (w.heap.size + 1 ≤ (wr.drewN nq).heap.size) := Lib.hid HSW.out
          have q0 := ((Upd.refl (fun _ => False) wr).drewN' nq).cell p0 (fun h => h)
          have q1 := ((Upd.refl (fun _ => False) wr).drewN' nq).cell p1 (fun h => h)
          have q2 := ((Upd.refl (fun _ => False) wr).drewN' nq).cell p2 (fun h => h)
          have q3 := ((Upd.refl (fun _ => False) wr).drewN' nq).cell p3 (fun h => h)
          have q4 := ((Upd.refl (fun _ => False) wr).drewN' nq).cell p4 (fun h => h)
          clear p0 p1 p2 p3 p4 y0 y1 y2 y3 y4
          generalize wr.drewN nq = w5 at *
          have HOW6 := Lib.hid (World.ownsRow.alloc HOQ.out (.cells #[.string c.1, .string c.2.1, .string c.2.2.name, .string c.2.2.sort, .slice ca c.2.2.kids.length cc] 93))
          have hsz6 : w.heap.size + 1 ≤ (w5.alloc (.cells #[.string c.1, .string c.2.1, .string c.2.2.name, .string c.2.2.sort, .slice ca c.2.2.kids.length cc] 93)).heap.size := Nat.le_trans HSQ.out ((Upd.refl (fun _ => False) w5).alloc (.cells #[.string c.1, .string c.2.1, .string c.2.2.name, .string c.2.2.sort, .slice ca c.2.2.kids.length cc] 93)).size
          obtain ⟨iT, hi, hz0, hz1, hz2⟩ := info_parts infoBd
          go_wp2_with (at_builtin; refine wpList_append_at _ rfl (.tmp 33) (.tmp 38) 27 rfl (w.heap.size + 1) 93 iT (.agg #[.string ⟨#[]⟩, .string ⟨#[]⟩, .string ⟨#[]⟩, .string ⟨#[]⟩, .slice none 0 0]) 5 88 Tryz.underlying27 hi hz0 hz1 hz2 rfl (by decide) _ _ _ rfl HOW6.out _ 1 1 [Value.string c.1, .string c.2.1, .string c.2.2.name, .string c.2.2.sort, .slice ca c.2.2.kids.length cc] rfl rfl ?c1b ?c2b ?c3b ?c4b hsz6 ?_)
          case c1b => exact new5 w5 _ _ _ _ _ 93
          case c2b => intro u hu; simp at hu; rcases hu with h | h | h | h | h <;> (subst h; rfl)
          case c3b => unfold maxLen; omega
          case c4b => omega
          intro v6 w6 hG6
          obtain ⟨a6, c6, hv6⟩ := own_shape hG6.own
          subst hv6
          have hlen6 : (L ++ [((c, ca, c.2.2.kids.length, cc) : Be)]).length = L.length + 1 := by simp
          have HG6 : Hid (w6.ownsRow (w.heap.size + 1) 93 5 (.slice a6 (L.length + 1) c6) (L ++ [((c, ca, c.2.2.kids.length, cc) : Be)]).length ((L ++ [((c, ca, c.2.2.kids.length, cc) : Be)]).flatMap beEnc)) := Lib.hid (by
            rw [hlen6, List.flatMap_append]
            simpa using hG6.own)
          have HU6 : Hid (Upd (fun j => (Value.slice oa L.length oc).ownBlock = some j) w5 w6) := Lib.hid ((((Upd.refl (fun _ => False) w5).alloc (.cells #[.string c.1, .string c.2.1, .string c.2.2.name, .string c.2.2.sort, .slice ca c.2.2.kids.length cc] 93)).mono (fun _ _ x => x.elim)).trans hG6.upd)
          have HE6 : Hid (Ext w w6) := Lib.hid (HEQ.out.trans' HU6.out (fun j hj e => by have h1 := (HO.out.lt j e).1; omega))
          have HB6 := Lib.hid (HU6.out.heap HBQ.out (fun e => by have h1 := (HO.out.lt _ e).1; omega))
          have HG6F := HG6
          rw [← hlen6] at HG6F ⊢
          clear hi hz0 hz1 hz2
          go_wp2_with fail
          go_roundg (l.length - (k + 1))
          case measure => omega
          case rel => exact ⟨k + 1, false, a6, c6, _, rfl, rfl, by go_num, rfl, by omega, by rw [hlen6]; omega, HG6F, HE6, HB6, HKF, HPF, HDF⟩
        | true =>
          have hLL : L.length ≤ k := by
            have h1 : (L.map (·.1)).length = L.length := List.length_map ..
            have h2 := HP.out
            unfold adP at h2
            rw [if_neg (by decide)] at h2
            rw [h2, List.length_take] at h1
            omega
          have HKF : Hid (∀ y ∈ (L ++ [((x, xa, x.2.2.kids.length, xc) : Be)]) ++ [((c, ca, c.2.2.kids.length, cc) : Be)], TlR (fun k => S k ∨ T k) w y.1.2.2.kids (beV y)) := Lib.hid (fun y hy => by
            rcases List.mem_append.1 hy with hy | hy
            · rcases List.mem_append.1 hy with hy | hy
              · exact HK.out y hy
              · rw [List.mem_singleton] at hy; subst hy; exact HXI.out
            · rw [List.mem_singleton] at hy; subst hy; exact HKI.out)
          have HPF : Hid (((L ++ [((x, xa, x.2.2.kids.length, xc) : Be)]) ++ [((c, ca, c.2.2.kids.length, cc) : Be)]).map (·.1) = adP x (l.take (k + 1)) true) := Lib.hid (by
            rw [List.map_append, List.map_append, HP.out, HTK.out]
            unfold adP
            rw [if_neg (by decide), if_pos rfl, addB_first HD0.out HBL.out]
            simp)
          have HDF : Hid (if true = true then ∃ c ∈ l.take (k + 1), blt x.1 c.1 = true else ∀ c ∈ l.take (k + 1), blt x.1 c.1 = false) := Lib.hid (by
            rw [if_pos rfl]
            exact ⟨c, by rw [HTK.out]; simp, HBL.out⟩)
          go_wp2_with fail
          go_quiet (fail)
          have HEQ := Lib.hid (HE.out.drewN' nq)
          have HOQ : Hid ((wr.drewN nq).ownsRow (w.heap.size + 1) 93 5 (.slice oa L.length oc) L.length (L.flatMap beEnc)) := Lib.hid (own_kept HO.out ((Upd.refl (fun _ => False) wr).drewN' nq) (fun _ _ h => h))
          have HBQ := Lib.hid (((Upd.refl (fun _ => False) wr).drewN' nq).heap HB.out (fun h => h))
          have HSQ : Hid (w.heap.size + 1 ≤ (wr.drewN nq).heap.size) := Lib.hid HSW.out
          clear p0 p1 p2 p3 p4 y0 y1 y2 y3 y4
          generalize wr.drewN nq = w5 at *
          have y0 := cellRow HBQ.out 0 (.string x.1) rfl
          have y1 := cellRow HBQ.out 1 (.string x.2.1) rfl
          have y2 := cellRow HBQ.out 2 (.string x.2.2.name) rfl
          have y3 := cellRow HBQ.out 3 (.string x.2.2.sort) rfl
          have y4 := cellRow HBQ.out 4 (.slice xa x.2.2.kids.length xc) rfl
          have HOW6 := Lib.hid (World.ownsRow.alloc HOQ.out (.cells #[.string x.1, .string x.2.1, .string x.2.2.name, .string x.2.2.sort, .slice xa x.2.2.kids.length xc] 93))
          have hsz6 : w.heap.size + 1 ≤ (w5.alloc (.cells #[.string x.1, .string x.2.1, .string x.2.2.name, .string x.2.2.sort, .slice xa x.2.2.kids.length xc] 93)).heap.size := Nat.le_trans HSQ.out ((Upd.refl (fun _ => False) w5).alloc (.cells #[.string x.1, .string x.2.1, .string x.2.2.name, .string x.2.2.sort, .slice xa x.2.2.kids.length xc] 93)).size
          obtain ⟨iT, hi, hz0, hz1, hz2⟩ := info_parts infoBd
          go_wp2_with (at_builtin; refine wpList_append_at _ rfl (.tmp 29) (.tmp 31) 27 rfl (w.heap.size + 1) 93 iT (.agg #[.string ⟨#[]⟩, .string ⟨#[]⟩, .string ⟨#[]⟩, .string ⟨#[]⟩, .slice none 0 0]) 5 88 Tryz.underlying27 hi hz0 hz1 hz2 rfl (by decide) _ _ _ rfl HOW6.out _ 1 1 [Value.string x.1, .string x.2.1, .string x.2.2.name, .string x.2.2.sort, .slice xa x.2.2.kids.length xc] rfl rfl ?c1c ?c2c ?c3c ?c4c hsz6 ?_)
          case c1c => exact new5 w5 _ _ _ _ _ 93
          case c2c => intro u hu; simp at hu; rcases hu with h | h | h | h | h <;> (subst h; rfl)
          case c3c => unfold maxLen; omega
          case c4c => omega
          intro v6 w6 hG6
          obtain ⟨a6, c6, hv6⟩ := own_shape hG6.own
          subst hv6
          have hlen6 : (L ++ [((x, xa, x.2.2.kids.length, xc) : Be)]).length = L.length + 1 := by simp
          have HG6 : Hid (w6.ownsRow (w.heap.size + 1) 93 5 (.slice a6 (L.length + 1) c6) (L ++ [((x, xa, x.2.2.kids.length, xc) : Be)]).length ((L ++ [((x, xa, x.2.2.kids.length, xc) : Be)]).flatMap beEnc)) := Lib.hid (by
            rw [hlen6, List.flatMap_append]
            simpa using hG6.own)
          have HU6 : Hid (Upd (fun j => (Value.slice oa L.length oc).ownBlock = some j) w5 w6) := Lib.hid ((((Upd.refl (fun _ => False) w5).alloc (.cells #[.string x.1, .string x.2.1, .string x.2.2.name, .string x.2.2.sort, .slice xa x.2.2.kids.length xc] 93)).mono (fun _ _ x => x.elim)).trans hG6.upd)
          have HE6 : Hid (Ext w w6) := Lib.hid (HEQ.out.trans' HU6.out (fun j hj e => by have h1 := (HO.out.lt j e).1; omega))
          have HB6 := Lib.hid (HU6.out.heap HBQ.out (fun e => by have h1 := (HO.out.lt _ e).1; omega))
          have HSQ6 : Hid (w.heap.size + 1 ≤ w6.heap.size) := Lib.hid (Nat.le_trans HSQ.out HU6.out.size)
          obtain ⟨r0, r1, r2, r3, r4⟩ := HRC.out
          have q0 := HE6.out.cell r0 (fun h => h)
          have q1 := HE6.out.cell r1 (fun h => h)
          have q2 := HE6.out.cell r2 (fun h => h)
          have q3 := HE6.out.cell r3 (fun h => h)
          have q4 := HE6.out.cell r4 (fun h => h)
          have hl6 : (L ++ [((x, xa, x.2.2.kids.length, xc) : Be)]).length ≤ 1000001 := by simp; omega
          clear y0 y1 y2 y3 y4 r0 r1 r2 r3 r4 hi hz0 hz1 hz2
          have HOW7 := Lib.hid (World.ownsRow.alloc HG6.out (.cells #[.string c.1, .string c.2.1, .string c.2.2.name, .string c.2.2.sort, .slice ca c.2.2.kids.length cc] 93))
          have hsz7 : w.heap.size + 1 ≤ (w6.alloc (.cells #[.string c.1, .string c.2.1, .string c.2.2.name, .string c.2.2.sort, .slice ca c.2.2.kids.length cc] 93)).heap.size := Nat.le_trans HSQ6.out ((Upd.refl (fun _ => False) w6).alloc (.cells #[.string c.1, .string c.2.1, .string c.2.2.name, .string c.2.2.sort, .slice ca c.2.2.kids.length cc] 93)).size
          obtain ⟨iT, hi, hz0, hz1, hz2⟩ := info_parts infoBd
          go_wp2_with (at_builtin; refine wpList_append_at _ rfl (.tmp 33) (.tmp 38) 27 rfl (w.heap.size + 1) 93 iT (.agg #[.string ⟨#[]⟩, .string ⟨#[]⟩, .string ⟨#[]⟩, .string ⟨#[]⟩, .slice none 0 0]) 5 88 Tryz.underlying27 hi hz0 hz1 hz2 rfl (by decide) _ _ _ rfl HOW7.out _ 1 1 [Value.string c.1, .string c.2.1, .string c.2.2.name, .string c.2.2.sort, .slice ca c.2.2.kids.length cc] rfl rfl ?c1d ?c2d ?c3d ?c4d hsz7 ?_)
          case c1d => exact new5 w6 _ _ _ _ _ 93
          case c2d => intro u hu; simp at hu; rcases hu with h | h | h | h | h <;> (subst h; rfl)
          case c3d => unfold maxLen; omega
          case c4d => omega
          intro v7 w7 hG7
          obtain ⟨a7, c7, hv7⟩ := own_shape hG7.own
          subst hv7
          have hlen7 : ((L ++ [((x, xa, x.2.2.kids.length, xc) : Be)]) ++ [((c, ca, c.2.2.kids.length, cc) : Be)]).length = (L ++ [((x, xa, x.2.2.kids.length, xc) : Be)]).length + 1 := by simp
          have HG7 : Hid (w7.ownsRow (w.heap.size + 1) 93 5 (.slice a7 ((L ++ [((x, xa, x.2.2.kids.length, xc) : Be)]).length + 1) c7) ((L ++ [((x, xa, x.2.2.kids.length, xc) : Be)]) ++ [((c, ca, c.2.2.kids.length, cc) : Be)]).length (((L ++ [((x, xa, x.2.2.kids.length, xc) : Be)]) ++ [((c, ca, c.2.2.kids.length, cc) : Be)]).flatMap beEnc)) := Lib.hid (by
            rw [hlen7, List.flatMap_append]
            simpa using hG7.own)
          have HU7 : Hid (Upd (fun j => (Value.slice a6 (L.length + 1) c6).ownBlock = some j) w6 w7) := Lib.hid ((((Upd.refl (fun _ => False) w6).alloc (.cells #[.string c.1, .string c.2.1, .string c.2.2.name, .string c.2.2.sort, .slice ca c.2.2.kids.length cc] 93)).mono (fun _ _ x => x.elim)).trans hG7.upd)
          have HE7 : Hid (Ext w w7) := Lib.hid (HE6.out.trans' HU7.out (fun j hj e => by have h1 := (HG6.out.lt j e).1; omega))
          have HB7 := Lib.hid (HU7.out.heap HB6.out (fun e => by have h1 := (HG6.out.lt _ e).1; omega))
          rw [hlen6] at HG7
          have hlen7b : ((L ++ [((x, xa, x.2.2.kids.length, xc) : Be)]) ++ [((c, ca, c.2.2.kids.length, cc) : Be)]).length = L.length + 1 + 1 := by simp
          have HG7F := HG7
          rw [← hlen7b] at HG7F ⊢
          clear hi hz0 hz1 hz2
          go_wp2_with fail
          go_roundg (l.length - (k + 1))
          case measure => omega
          case rel => exact ⟨k + 1, true, a7, c7, _, rfl, rfl, by go_num, rfl, by omega, by rw [hlen7, hlen6]; omega, HG7F, HE7, HB7, HKF, HPF, HDF⟩
    · obtain rfl : k = l.length := by omega
      have z2 : decide ((l.length : Int) < (l.length : Int)) = false := decide_eq_false (by omega)
      have hpt := HP.out
      rw [List.take_length] at hpt
      have HPT := Lib.hid hpt
      clear hpt
      cases done with
      | true =>
        obtain rfl : L.map (·.1) = Z := by rw [HPT.out, ← HZ2.out]; unfold adP; rw [if_pos rfl]
        go_wp2_with fail
        go_ret
        exact ⟨_, rfl, bn_of ((SlR.of_own HO.out).weaken (fun j hj => .inr ⟨by have := (HO.out.lt j hj).1; omega, (HO.out.lt j hj).2⟩)) (fun y hy => (HK.out y hy).ext HE.out), HE.out⟩
      | false =>
        have hd := HD.out
        rw [if_neg (by decide), List.take_length] at hd
        have hzz : (L ++ [((x, xa, x.2.2.kids.length, xc) : Be)]).map (·.1) = Z := by
          rw [List.map_append, HPT.out, ← HZ2.out, addB_none hd]
          unfold adP
          rw [if_neg (by decide)]
          rfl
        have HZ3 := Lib.hid hzz
        have HXI := Lib.hid (HX.out.weaken (fun k hk => (.inr hk : S k ∨ T k)))
        have hcons : Hid (∀ y ∈ L ++ [((x, xa, x.2.2.kids.length, xc) : Be)], TlR (fun k => S k ∨ T k) w y.1.2.2.kids (beV y)) := Lib.hid (fun y hy => by
          rcases List.mem_append.1 hy with hy | hy
          · exact HK.out y hy
          · rw [List.mem_singleton] at hy; subst hy; exact HXI.out)
        clear hd hzz
        have HOW6 := Lib.hid (World.ownsRow.alloc HO.out (.cells #[.string x.1, .string x.2.1, .string x.2.2.name, .string x.2.2.sort, .slice xa x.2.2.kids.length xc] 93))
        have hsz6 : w.heap.size + 1 ≤ (wr.alloc (.cells #[.string x.1, .string x.2.1, .string x.2.2.name, .string x.2.2.sort, .slice xa x.2.2.kids.length xc] 93)).heap.size := Nat.le_trans HSW.out ((Upd.refl (fun _ => False) wr).alloc (.cells #[.string x.1, .string x.2.1, .string x.2.2.name, .string x.2.2.sort, .slice xa x.2.2.kids.length xc] 93)).size
        obtain ⟨iT, hi, hz0, hz1, hz2⟩ := info_parts infoBd
        go_wp2_with (at_builtin; refine wpList_append_at _ rfl (.tmp 42) (.tmp 44) 27 rfl (w.heap.size + 1) 93 iT (.agg #[.string ⟨#[]⟩, .string ⟨#[]⟩, .string ⟨#[]⟩, .string ⟨#[]⟩, .slice none 0 0]) 5 88 Tryz.underlying27 hi hz0 hz1 hz2 rfl (by decide) _ _ _ rfl HOW6.out _ 1 1 [Value.string x.1, .string x.2.1, .string x.2.2.name, .string x.2.2.sort, .slice xa x.2.2.kids.length xc] rfl rfl ?c1e ?c2e ?c3e ?c4e hsz6 ?_)
        case c1e => exact new5 wr _ _ _ _ _ 93
        case c2e => intro u hu; simp at hu; rcases hu with h | h | h | h | h <;> (subst h; rfl)
        case c3e => unfold maxLen; omega
        case c4e => omega
        intro v6 w6 hG6
        obtain ⟨a6, c6, hv6⟩ := own_shape hG6.own
        subst hv6
        have hlen6 : (L ++ [((x, xa, x.2.2.kids.length, xc) : Be)]).length = L.length + 1 := by simp
        have HG6 : Hid (w6.ownsRow (w.heap.size + 1) 93 5 (.slice a6 (L.length + 1) c6) (L ++ [((x, xa, x.2.2.kids.length, xc) : Be)]).length ((L ++ [((x, xa, x.2.2.kids.length, xc) : Be)]).flatMap beEnc)) := Lib.hid (by
          rw [hlen6, List.flatMap_append]
          simpa using hG6.own)
        have HU6 : Hid (Upd (fun j => (Value.slice oa L.length oc).ownBlock = some j) wr w6) := Lib.hid ((((Upd.refl (fun _ => False) wr).alloc (.cells #[.string x.1, .string x.2.1, .string x.2.2.name, .string x.2.2.sort, .slice xa x.2.2.kids.length xc] 93)).mono (fun _ _ x => x.elim)).trans hG6.upd)
        have HE6 : Hid (Ext w w6) := Lib.hid (HE.out.trans' HU6.out (fun j hj e => by have h1 := (HO.out.lt j e).1; omega))
        have HB6 := Lib.hid (HU6.out.heap HB.out (fun e => by have h1 := (HO.out.lt _ e).1; omega))
        have HG6F := HG6
        rw [← hlen6] at HG6F ⊢
        clear hi hz0 hz1 hz2
        go_wp2_with fail
        go_ret
        refine ⟨_, rfl, ?_, HE6.out⟩
        have hbn := bn_of (R := fun k => R k ∨ (w.heap.size ≤ k ∧ k < w6.heap.size)) ((SlR.of_own HG6F.out).weaken (fun j hj => .inr ⟨by have := (HG6F.out.lt j hj).1; omega, (HG6F.out.lt j hj).2⟩)) (fun y hy => (hcons.out y hy).ext HE6.out)
        rw [HZ3.out] at hbn
        exact hbn

end Go.Proofs.YtlkcjmaiahnodaaGreatDoor
