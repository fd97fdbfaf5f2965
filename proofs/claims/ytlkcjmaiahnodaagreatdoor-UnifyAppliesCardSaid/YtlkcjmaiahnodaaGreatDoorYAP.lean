/- The texts N42 N43 N44, one behind the other. -/
import Derived.Test.YtlkcjmaiahnodaaGreatDoorYAO
import Derived.Test.YtlkcjmaiahnodaaGreatDoorYAM
import Derived.Test.YtlkcjmaiahnodaaGreatDoorYAN
import Derived.Test.YtlkcjmaiahnodaaGreatDoorYAI
/- Put, of the reference. -/
namespace Go.Proofs.YtlkcjmaiahnodaaGreatDoor
open Go.RowKit Go.Hw Go
set_option linter.unusedVariables false
set_option linter.unusedSimpArgs false

open Tm Go.Sort Go.Proofs Go.ChangeMaps
def PutP (z : Tm) (d left : Nat) (q : Tm) (r : Int) (v : Value) (w w' : World) : Prop :=
  ((z.size ≤ left ∧ d + z.depth ≤ 61) → q = z ∧ r = (left : Int) - (z.size : Int) ∧ ∃ B, TlO 24 w' B q.kids v ∧ ∀ j, B j → w.heap.size ≤ j ∧ j < w'.heap.size) ∧ (¬ (z.size ≤ left ∧ d + z.depth ≤ 61) → r < 0)
theorem PutP.no {z : Tm} {d left : Nat} {q : Tm} {r : Int} {v : Value} {w w' : World} (h : ¬ (z.size ≤ left ∧ d + z.depth ≤ 61)) (hr : r < 0) : PutP z d left q r v w w' := ⟨fun h2 => absurd h2 h, fun _ => hr⟩
theorem PutP.yes {z : Tm} {d left : Nat} {q : Tm} {r : Int} {v : Value} {w w' : World} (h1 : q = z) (h2 : r = (left : Int) - (z.size : Int)) (hn : z.size ≤ left → d + z.depth ≤ 61) (h3 : ∃ B, TlO 24 w' B q.kids v ∧ ∀ j, B j → w.heap.size ≤ j ∧ j < w'.heap.size) : PutP z d left q r v w w' := ⟨fun _ => ⟨h1, h2, h3⟩, fun h => by
  by_cases h4 : z.size ≤ left
  · exact absurd ⟨h4, hn h4⟩ h
  · omega⟩
theorem size_pos' (t : Tm) : 1 ≤ t.size := by rw [size_eq]; omega
theorem depth_pos' (t : Tm) : 1 ≤ t.depth := by rw [depth_eq]; omega
theorem depths_take_le (L : List Tm) (k : Nat) : depths (L.take k) ≤ depths L := by
  have h := depths_append (L.take k) (L.drop k)
  rw [List.take_append_drop] at h
  omega
set_option maxRecDepth 100000 in
set_option maxHeartbeats 2000000 in
theorem put05_x (Bs : List Bd) (vB : Value) (RB SB : Nat → Prop) (w0 : World) (HBB : Hid (BnR RB SB w0 vB Bs)) (HSB : Hid (∀ k, SB k → k < w0.heap.size)) (HBL : Hid (Bs.length ≤ 1000000)) (HSQ : Hid (∀ b ∈ Bs, b.2.2.size ≤ 100000)) :
    ∀ (t : Tm) (v : Value) (S : Nat → Prop) (w : World) (d left : Nat), Ext w0 w → TmR S w t v → (∀ k, S k → k < w.heap.size) → t.size ≤ 100000 → NoP t → d ≤ 61 → left ≤ 1000 →
    Calls Tryz.prog 90 #[vB, v, .int .i64 (d : Int), .int .i64 (left : Int)] w fun e w' => ∃ (q : Tm) (ra : Option Addr) (rc : Nat) (r : Int), e = .returned (.tuple #[.agg #[.string q.name, .string q.sort, .slice ra q.kids.length rc], .int .i64 r]) ∧ PutP (sbB Bs t) d left q r (.slice ra q.kids.length rc) w w' ∧ Ext w w' := by
  refine Tm.ind (fun n s L ih => ?_)
  intro v S w d left hw0 hT hS hsz hnp hd hleft
  obtain ⟨va, vc, hvB⟩ := HBB.out.shape
  subst hvB
  obtain ⟨Z, hZZ⟩ : ∃ Z, sbB Bs (.mk n s L) = Z := ⟨_, rfl⟩
  rw [hZZ]
  have HZZ := Lib.hid hZZ
  clear hZZ
  obtain ⟨a, cap, rfl, hT⟩ := hT
  dsimp only [tV, Tm.name, Tm.sort, Tm.kids] at hT
  show Calls _ _ #[_, .agg #[.string n, .string s, .slice a L.length cap], _, _] w _
  have HTL := Lib.hid hT
  have HIH := Lib.hid ih
  have HSS := Lib.hid hS
  have HNP := Lib.hid hnp
  have HW0 := Lib.hid hw0
  have hszL : sizes L + 1 ≤ 100000 := by rw [size_eq] at hsz; simp only [Tm.kids] at hsz; omega
  have HSL := Lib.hid hszL
  have hlL : L.length ≤ 100000 := by have h1 := length_le_sizes L; omega
  have hZ := ((Upd.refl (fun _ => False) w).alloc (.cells #[.string n, .string s, .slice a L.length cap] 24)).alloc (.cells #[.string ⟨#[]⟩, .string ⟨#[]⟩, .slice none 0 0] 24)
  have HB2 := Lib.hid (allocOld (alloc0 w (.cells #[.string n, .string s, .slice a L.length cap] 24)) (.cells #[.string ⟨#[]⟩, .string ⟨#[]⟩, .slice none 0 0] 24))
  have HB3 := Lib.hid (alloc_at (w.alloc (.cells #[.string n, .string s, .slice a L.length cap] 24)) (.cells #[.string ⟨#[]⟩, .string ⟨#[]⟩, .slice none 0 0] 24) (n := w.heap.size + 1) (by simp))
  have hs1 : ((w.alloc (.cells #[.string n, .string s, .slice a L.length cap] 24)).alloc (.cells #[.string ⟨#[]⟩, .string ⟨#[]⟩, .slice none 0 0] 24)).heap.size = w.heap.size + 2 := by simp
  have HS1 := Lib.hid hs1
  have HZ := Lib.hid hZ
  have HFI := Lib.hid (find05_x Bs _ n RB SB ((w.alloc (.cells #[.string n, .string s, .slice a L.length cap] 24)).alloc (.cells #[.string ⟨#[]⟩, .string ⟨#[]⟩, .slice none 0 0] 24)) (HBB.out.ext (hw0.trans hZ)) HBL.out)
  have t1 := emp_dec s
  have hbl := HBL.out
  clear ih hT hS hsz hszL hZ hs1 hw0 hnp
  go_enter Tryz.func90, Tryz.ntmps90
  go_upto_region 1 with fail
  generalize ((w.alloc (.cells #[.string n, .string s, .slice a L.length cap] 24)).alloc (.cells #[.string ⟨#[]⟩, .string ⟨#[]⟩, .slice none 0 0] 24)) = w1 at *
  have x0 := cellRow HB2.out 0 (.string n) rfl
  have x1 := cellRow HB2.out 1 (.string s) rfl
  have x2 := cellRow HB2.out 2 (.slice a L.length cap) rfl
  have hZof : (s = nul ∨ L = []) → (s ≠ nul → bget Bs n = none) → Z = .mk n s (L.map (sbB Bs)) := fun h1 h2 => by
    rw [← HZZ.out]
    show sbT (bsu Bs) (.mk n s L) = _
    by_cases hs : s = nul
    · rw [hs, sbT_opn]; rfl
    · rw [sbT_var _ hs L, bsu_none (h2 hs), h1.resolve_left hs]; rfl
  have HZO := Lib.hid hZof
  clear hZof
  by_cases hs0 : s = nul
  rotate_left
  · rw [decide_eq_false hs0] at t1
    cases hF : (bget Bs n).isSome with
    | true =>
      obtain ⟨m, hlm, hfx, hbg, _⟩ := fixS41 (n := n) hF
      have hZx : Z = (Go.Hw.bg Bs m).2.2 := by rw [← HZZ.out]; show sbT (bsu Bs) (.mk n s L) = _; rw [sbT_var _ hs0 L, bsu_some hbg]
      rw [hfx] at HFI
      obtain ⟨gb, ob, hgb, _, hatb⟩ := (HBB.out.ext (HW0.out.trans HZ.out)).at_ (by omega)
      subst hgb
      obtain ⟨xa, xc, _, _, p2, p3, p4, hkid⟩ := hatb _ hlm
      have y0 : (0 : Int) ≤ (m : Int) := by omega
      have y1 : (m : Int) < (Bs.length : Int) := by omega
      have y2 : decide ((0 : Int) ≤ (m : Int)) = true := decide_eq_true y0
      have hq1 := HSQ.out _ (bg_mem hlm)
      obtain ⟨x, hx⟩ : ∃ x, (Go.Hw.bg Bs m).2.2 = x := ⟨_, rfl⟩
      rw [hx] at p2 p3 p4 hkid hq1 hZx
      clear hx HZZ HZO
      have hZx := hZx.symm
      subst hZx
      have HK := Lib.hid hkid
      have hq2 := Nat.le_trans (depth_le_size x) hq1
      have hq3 := depth_pos' x
      have HRS := Lib.hid (fun W (hW : Ext w1 W) => rSize_x x (tV x (.slice xa x.kids.length xc)) SB W ⟨xa, xc, rfl, HK.out.ext hW⟩ (by omega))
      have HRD := Lib.hid (fun W (hW : Ext w1 W) => rDepth_x x (tV x (.slice xa x.kids.length xc)) SB W ⟨xa, xc, rfl, HK.out.ext hW⟩ (by omega))
      have HCP := Lib.hid (fun W (hW : Ext w1 W) => cop05_x x (tV x (.slice xa x.kids.length xc)) SB W ⟨xa, xc, rfl, HK.out.ext hW⟩ (fun k hk => Nat.lt_of_lt_of_le (HSB.out k hk) ((HW0.out.trans HZ.out).trans hW).size) hq1)
      dsimp only [tV] at HRS HRD HCP
      obtain ⟨XS, hXS⟩ : ∃ X, x.size = X := ⟨_, rfl⟩
      obtain ⟨XD, hXD⟩ : ∃ X, x.depth = X := ⟨_, rfl⟩
      have HXX := Lib.hid (And.intro hXS hXD)
      rw [hXS] at HRS hq1
      rw [hXD] at HRD hq2 hq3
      clear hatb hkid hbg hfx hF hs0 hXS hXD
      go_wp2_with fail
      refine HFI.out.mono ?_
      rintro e w4 ⟨rfl, hw4⟩
      have hw4 := hw4.symm
      subst hw4
      clear HFI
      go_wp2_with fail
      refine (HRS.out _ (Upd.refl _ _)).mono ?_
      rintro e w5 ⟨rfl, hw5⟩
      have r2 := hw5.cell p2 (fun h => h)
      have r3 := hw5.cell p3 (fun h => h)
      have r4 := hw5.cell p4 (fun h => h)
      have HW5 := Lib.hid hw5
      have HB35 := Lib.hid (hw5.heap HB3.out (fun h => h))
      clear hw5 HRS p2 p3 p4 x0 x1 x2
      by_cases hdd : 61 < d + XD
      · have t5 : decide ((60 : Int) < (d : Int) + (XD : Int) - 1) = true := decide_eq_true (by omega)
        have t5' : (60 : Int) < (d : Int) + (XD : Int) - 1 := by omega
        go_wp2_with fail
        refine (HRD.out _ HW5.out).mono ?_
        rintro e w6 ⟨rfl, hw6⟩
        have HE6 := Lib.hid (HZ.out.trans (HW5.out.trans hw6))
        have HB36 := Lib.hid (hw6.heap HB35.out (fun h => h))
        have hno : ¬ (x.size ≤ left ∧ d + x.depth ≤ 61) := fun h => by have := HXX.out; omega
        clear hw6 HRD HCP r2 r3 r4
        have f2 := fun i => frozenRow HB36.out i
        have d0 := cellRow HB36.out 0 (.string ⟨#[]⟩) rfl
        have d1 := cellRow HB36.out 1 (.string ⟨#[]⟩) rfl
        have d2 := cellRow HB36.out 2 (.slice none 0 0) rfl
        go_wp2_with fail
        have hr3 := st3_heap HB36.out (.string ⟨#[]⟩) (.string ⟨#[]⟩) (.slice none 0 0)
        have hu := st3_upd' w6 (w.heap.size + 1) (.string ⟨#[]⟩) (.string ⟨#[]⟩) (.slice none 0 0)
        have e0 := cellRow hr3 0 _ rfl
        have e1 := cellRow hr3 1 _ rfl
        have e2 := cellRow hr3 2 _ rfl
        have hue := HE6.out.trans' hu (fun j hj e => by omega)
        refine bodyPost_ret (v := .tuple #[.agg #[.string ⟨#[]⟩, .string ⟨#[]⟩, .slice none 0 0], .int .i64 (-1)]) (by simp [results, Tryz.results90, go_sem, e0, e1, e2]) rfl ?_
        have hpp : ∀ w', PutP x d left (.mk nul nul []) (-1) (.slice none 0 0) w w' := fun w' => PutP.no (hno) (by omega)
        first | exact ⟨.mk nul nul [], none, 0, _, rfl, hpp _, hue⟩ | exact ⟨.mk nul nul [], none, 0, rfl, hpp _, hue⟩
      have t5 : decide ((60 : Int) < (d : Int) + (XD : Int) - 1) = false := decide_eq_false (by omega)
      have t5' : ¬ (60 : Int) < (d : Int) + (XD : Int) - 1 := by omega
      go_wp2_with fail
      refine (HRD.out _ HW5.out).mono ?_
      rintro e w6 ⟨rfl, hw6⟩
      have HW6 := Lib.hid (HW5.out.trans hw6)
      have HB36 := Lib.hid (hw6.heap HB35.out (fun h => h))
      have p2 := hw6.cell r2 (fun h => h)
      have p3 := hw6.cell r3 (fun h => h)
      have p4 := hw6.cell r4 (fun h => h)
      clear hw6 HRD r2 r3 r4
      go_wp2_with fail
      refine (HCP.out _ HW6.out).mono ?_
      rintro e w7 ⟨r7, B7, rfl, hT7, hb7, hw7⟩
      obtain ⟨ya, yc, hry⟩ := TlO.shape hT7
      subst hry
      have HT7 := Lib.hid hT7
      have HB7 := Lib.hid hb7
      have HE7 := Lib.hid (HZ.out.trans (HW6.out.trans hw7))
      have HB37 := Lib.hid (hw7.heap HB36.out (fun h => h))
      have HS7 : Hid (w.heap.size + 2 ≤ w6.heap.size) := Lib.hid (by rw [← HS1.out]; exact HW6.out.size)
      have d0 := cellRow HB37.out 0 (.string ⟨#[]⟩) rfl
      have d1 := cellRow HB37.out 1 (.string ⟨#[]⟩) rfl
      have d2 := cellRow HB37.out 2 (.slice none 0 0) rfl
      have f2 := fun i => frozenRow HB37.out i
      dsimp only [tV]
      clear hT7 hb7 hw7 HCP p2 p3 p4
      go_wp2_with fail
      have hr3 := st3_heap HB37.out (.string x.name) (.string x.sort) (.slice ya x.kids.length yc)
      have hu := st3_upd' w7 (w.heap.size + 1) (.string x.name) (.string x.sort) (.slice ya x.kids.length yc)
      have e0 := cellRow hr3 0 _ rfl
      have e1 := cellRow hr3 1 _ rfl
      have e2 := cellRow hr3 2 _ rfl
      have hue := HE7.out.trans' hu (fun j hj e => by omega)
      refine bodyPost_ret (v := .tuple #[.agg #[.string x.name, .string x.sort, .slice ya x.kids.length yc], .int .i64 ((left : Int) - (XS : Int))]) (by simp [results, Tryz.results90, go_sem, e0, e1, e2]) rfl ?_
      have hpp := PutP.yes (z := x) (d := d) (left := left) (q := x) (r := (left : Int) - (XS : Int)) (v := .slice ya x.kids.length yc) (w := w) (w' := _) rfl (by rw [HXX.out.1]) (fun _ => by have := HXX.out; omega) ⟨B7, HT7.out.kept hu (fun j hj e => by have h1 := (HB7.out j hj).1; have := HS7.out; omega), fun j hj => ⟨by have h1 := (HB7.out j hj).1; have := HS7.out; omega, Nat.lt_of_lt_of_le (HB7.out j hj).2 hu.size⟩⟩
      first | exact ⟨x, ya, yc, _, rfl, hpp, hue⟩ | exact ⟨x, ya, yc, rfl, hpp, hue⟩
    | false =>
      have hn : bget Bs n = none := by
        cases hb : bget Bs n with
        | none => rfl
        | some T => rw [hb] at hF; cases hF
      have HZZ3 : Hid (Z = .mk n s (L.map (sbB Bs))) := Lib.hid (HZO.out (.inr (HNP.out (.mk n s L) (mem_sbts_self _) hs0)) (fun _ => hn))
      have HZK : Hid (Z.kids = L.map (sbB Bs)) := Lib.hid (by rw [HZZ3.out]; rfl)
      have HZD : Hid (Z.size = sizes (L.map (sbB Bs)) + 1 ∧ Z.depth = depths (L.map (sbB Bs)) + 1) := Lib.hid ⟨by rw [HZZ3.out, size_eq]; rfl, by rw [HZZ3.out, depth_eq]; rfl⟩
      rw [fixN41 hn] at HFI
      clear hn hF hs0 HZO
      go_wp2_with fail
      refine HFI.out.mono ?_
      rintro e w4 ⟨rfl, hw4⟩
      have hw4 := hw4.symm
      subst hw4
      clear HFI
      by_cases hl0 : left = 0
      · have t5 : decide ((left : Int) - 1 < 0) = true := decide_eq_true (by omega)
        have t5' : (left : Int) - 1 < 0 := by omega
        have hno : ¬ (Z.size ≤ left ∧ d + Z.depth ≤ 61) := fun h => by have h2 := size_pos' Z; omega
        clear hl0
        have f2 := fun i => frozenRow HB3.out i
        have d0 := cellRow HB3.out 0 (.string ⟨#[]⟩) rfl
        have d1 := cellRow HB3.out 1 (.string ⟨#[]⟩) rfl
        have d2 := cellRow HB3.out 2 (.slice none 0 0) rfl
        go_wp2_with fail
        have hr3 := st3_heap HB3.out (.string ⟨#[]⟩) (.string ⟨#[]⟩) (.slice none 0 0)
        have hu := st3_upd' w1 (w.heap.size + 1) (.string ⟨#[]⟩) (.string ⟨#[]⟩) (.slice none 0 0)
        have e0 := cellRow hr3 0 _ rfl
        have e1 := cellRow hr3 1 _ rfl
        have e2 := cellRow hr3 2 _ rfl
        have hue := HZ.out.trans' hu (fun j hj e => by omega)
        refine bodyPost_ret (v := .tuple #[.agg #[.string ⟨#[]⟩, .string ⟨#[]⟩, .slice none 0 0], .int .i64 (-1)]) (by simp [results, Tryz.results90, go_sem, e0, e1, e2]) rfl ?_
        have hpp : ∀ w', PutP Z d left (.mk nul nul []) (-1) (.slice none 0 0) w w' := fun w' => PutP.no (hno) (by omega)
        first | exact ⟨.mk nul nul [], none, 0, _, rfl, hpp _, hue⟩ | exact ⟨.mk nul nul [], none, 0, rfl, hpp _, hue⟩
      have t5 : decide ((left : Int) - 1 < 0) = false := decide_eq_false (by omega)
      have t5' : ¬ (left : Int) - 1 < 0 := by omega
      by_cases hd0 : 60 < d
      · have t6 : decide ((60 : Int) < (d : Int)) = true := decide_eq_true (by omega)
        have t6' : (60 : Int) < (d : Int) := by omega
        have hno : ¬ (Z.size ≤ left ∧ d + Z.depth ≤ 61) := fun h => by have h2 := depth_pos' Z; omega
        clear hl0 hd0
        have f2 := fun i => frozenRow HB3.out i
        have d0 := cellRow HB3.out 0 (.string ⟨#[]⟩) rfl
        have d1 := cellRow HB3.out 1 (.string ⟨#[]⟩) rfl
        have d2 := cellRow HB3.out 2 (.slice none 0 0) rfl
        go_wp2_with fail
        have hr3 := st3_heap HB3.out (.string ⟨#[]⟩) (.string ⟨#[]⟩) (.slice none 0 0)
        have hu := st3_upd' w1 (w.heap.size + 1) (.string ⟨#[]⟩) (.string ⟨#[]⟩) (.slice none 0 0)
        have e0 := cellRow hr3 0 _ rfl
        have e1 := cellRow hr3 1 _ rfl
        have e2 := cellRow hr3 2 _ rfl
        have hue := HZ.out.trans' hu (fun j hj e => by omega)
        refine bodyPost_ret (v := .tuple #[.agg #[.string ⟨#[]⟩, .string ⟨#[]⟩, .slice none 0 0], .int .i64 (-1)]) (by simp [results, Tryz.results90, go_sem, e0, e1, e2]) rfl ?_
        have hpp : ∀ w', PutP Z d left (.mk nul nul []) (-1) (.slice none 0 0) w w' := fun w' => PutP.no (hno) (by omega)
        first | exact ⟨.mk nul nul [], none, 0, _, rfl, hpp _, hue⟩ | exact ⟨.mk nul nul [], none, 0, rfl, hpp _, hue⟩
      have t6 : decide ((60 : Int) < (d : Int)) = false := decide_eq_false (by omega)
      have t6' : ¬ (60 : Int) < (d : Int) := by omega
      obtain ⟨lf, rfl⟩ : ∃ lf, left = lf + 1 := ⟨left - 1, by omega⟩
      have t7 : ((lf + 1 : Nat) : Int) - 1 = (lf : Int) := by omega
      have HD := Lib.hid (show d ≤ 60 by omega)
      clear hl0 hd0
      have hX4 := (Upd.refl (fun _ => False) w1).alloc (.cells #[.string n, .string s, .slice none 0 0] 24)
      have HB24 := Lib.hid (allocOld HB2.out (.cells #[.string n, .string s, .slice none 0 0] 24))
      have HB34 := Lib.hid (allocOld HB3.out (.cells #[.string n, .string s, .slice none 0 0] 24))
      have HB44 := Lib.hid (show (w1.alloc (.cells #[.string n, .string s, .slice none 0 0] 24)).heap[w.heap.size + 2]? = some (.cells #[.string n, .string s, .slice none 0 0] 24 (0, 0)) from alloc_at w1 (.cells #[.string n, .string s, .slice none 0 0] 24) HS1.out.symm)
      have HE4 := Lib.hid (HZ.out.trans hX4)
      have HS4 : Hid (w.heap.size + 3 ≤ (w1.alloc (.cells #[.string n, .string s, .slice none 0 0] 24)).heap.size) := Lib.hid (by have := HS1.out; simp; omega)
      go_wp2_with fail
      try rw [HS1.out]
      generalize w1.alloc (.cells #[.string n, .string s, .slice none 0 0] 24) = w4 at *
      clear hX4 x0 x1 x2 HB2 HB3
      have HJ0 : Hid (CpJ 24 (w.heap.size + 3) w4 (L.map (sbB Bs)) (.slice none 0 0) [] (fun _ _ => False) 0) := Lib.hid ⟨rfl, ⟨rfl, .inl ⟨rfl, rfl⟩⟩, fun i hi => absurd hi (Nat.not_lt_zero _), fun i j hi => absurd hi (Nat.not_lt_zero _), fun i i' j hi => absurd hi (Nat.not_lt_zero _)⟩
      go_loopg [3, 13] L.length (fun gk l3 iv wr => ∃ (k lk : Nat) (lv : Value) (us : List Value) (Bk : Nat → Nat → Prop), l3 = .int .i64 (lk : Int) ∧ iv = .int .i64 (k : Int) ∧ gk = L.length - k ∧ k ≤ L.length ∧ lk ≤ 1000 ∧ Hid (lk + sizes ((L.map (sbB Bs)).take k) = lf) ∧ Hid (CpJ 24 (w.heap.size + 3) wr (L.map (sbB Bs)) lv us Bk k) ∧ Hid (wr.heap[w.heap.size]? = some (.cells #[.string n, .string s, .slice a L.length cap] 24 (0, 0))) ∧ Hid (wr.heap[w.heap.size + 1]? = some (.cells #[.string ⟨#[]⟩, .string ⟨#[]⟩, .slice none 0 0] 24 (0, 0))) ∧ Hid (wr.heap[w.heap.size + 2]? = some (.cells #[.string n, .string s, lv] 24 (0, 0))) ∧ Hid (Ext w wr) ∧ Hid (w.heap.size + 3 ≤ wr.heap.size) ∧ Hid (d + depths ((L.map (sbB Bs)).take k) ≤ 60))
      case atStart => exact ⟨0, lf, _, _, _, rfl, rfl, rfl, Nat.zero_le _, by omega, Lib.hid (by simp [sizes]), HJ0, HB24, HB34, HB44, HE4, HS4, Lib.hid (by simp [depths]; exact HD.out)⟩
      case round =>
        clear HJ0 HB24 HB34 HB44 HE4 HS4 t7 t5 t5'
        obtain ⟨k, lk, lv, us, Bk, rfl, rfl, rfl, hk, hlk, HLK, HJ, HB2, HBr, HB3, HE, HSZ, HDK⟩ := hrel
        obtain ⟨la, lc, hlv⟩ := own_shape HJ.out.own
        subst hlv
        have b0 := cellRow HB2.out 0 (.string n) rfl
        have b1 := cellRow HB2.out 1 (.string s) rfl
        have b2 := cellRow HB2.out 2 (.slice a L.length cap) rfl
        by_cases hlt : k < L.length
        · obtain ⟨g, off, hga, _, hat⟩ := (HTL.out.ext HE.out).at_ (by omega)
          subst hga
          obtain ⟨xa, xc, q0, q1, q2, hkid⟩ := hat k hlt
          rw [← Nat.add_assoc] at q1 q2
          have z0 : (0 : Int) ≤ (k : Int) := by omega
          have z1 : (k : Int) < (L.length : Int) := by omega
          have z2 : decide ((k : Int) < (L.length : Int)) = true := decide_eq_true z1
          have z2' : decide (k < L.length) = true := decide_eq_true hlt
          have HIX := Lib.hid (HIH.out (tg L k) (tg_mem L k hlt) _ S wr (d + 1) lk (HW0.out.trans HE.out) ⟨xa, xc, rfl, hkid⟩ (fun j hj => Nat.lt_of_lt_of_le (HSS.out j hj) HE.out.size) (by have h1 := HSL.out; have h2 := size_mem (tg_mem L k hlt); omega) (HNP.out.kid (tg_mem L k hlt)) (by have := HD.out; omega) hlk)
          have hd1 : ((d + 1 : Nat) : Int) = (d : Int) + 1 := by omega
          rw [hd1] at HIX
          dsimp only [tV] at HIX
          have hlm : k < (L.map (sbB Bs)).length := by rw [List.length_map]; exact hlt
          have hsx := sizes_take (L.map (sbB Bs)) k hlm
          have hdx := depths_take (L.map (sbB Bs)) k hlm
          have hsl := sizes_take_le (L.map (sbB Bs)) (k + 1)
          have hdl := depths_take_le (L.map (sbB Bs)) (k + 1)
          have hzx : tg (L.map (sbB Bs)) k = sbB Bs (tg L k) := by
            unfold tg
            rw [List.getD_eq_getElem?_getD, List.getD_eq_getElem?_getD, List.getElem?_map, List.getElem?_eq_getElem hlt]
            rfl
          rw [hzx] at hsx hdx
          obtain ⟨x, hx⟩ : ∃ x, tg L k = x := ⟨_, rfl⟩
          rw [hx] at q0 q1 q2 HIX hzx hsx hdx
          have HZX := Lib.hid hzx
          have HSX := Lib.hid (And.intro hsx (And.intro hdx (And.intro hsl hdl)))
          clear hat hkid hx hzx hsx hdx hsl hdl hlm hd1
          go_wp2_with fail
          refine HIX.out.mono ?_
          rintro e w5 ⟨q, ya, yc, r, rfl, hq, hw5⟩
          have HQ5 := Lib.hid hq
          have HW5 := Lib.hid hw5
          have HX6 := Lib.hid (hw5.alloc (.cells #[.string q.name, .string q.sort, .slice ya q.kids.length yc] 24))
          have HB26 := Lib.hid (allocOld (hw5.heap HB2.out (fun h => h)) (.cells #[.string q.name, .string q.sort, .slice ya q.kids.length yc] 24))
          have HBr6 := Lib.hid (allocOld (hw5.heap HBr.out (fun h => h)) (.cells #[.string q.name, .string q.sort, .slice ya q.kids.length yc] 24))
          have HB36 := Lib.hid (allocOld (hw5.heap HB3.out (fun h => h)) (.cells #[.string q.name, .string q.sort, .slice ya q.kids.length yc] 24))
          have HB86 := Lib.hid (alloc0 w5 (.cells #[.string q.name, .string q.sort, .slice ya q.kids.length yc] 24))
          have HS6 := Lib.hid (Nat.le_trans HSZ.out HX6.out.size)
          clear hq hw5 HIX b0 b1 b2 q0 q1 q2
          by_cases hr : r < 0
          · have t8 : decide (r < 0) = true := decide_eq_true hr
            have HE6 := Lib.hid (HE.out.trans HX6.out)
            have hno : ¬ (Z.size ≤ lf + 1 ∧ d + Z.depth ≤ 61) := fun h => by
              have h1 := HQ5.out.2
              have h2 := HSX.out
              have h3 := HLK.out
              have h4 := HZD.out
              have h5 : ¬ ((sbB Bs x).size ≤ lk ∧ d + 1 + (sbB Bs x).depth ≤ 61) → False := fun _ => by
                refine absurd (And.intro ?_ ?_) ‹¬ ((sbB Bs x).size ≤ lk ∧ d + 1 + (sbB Bs x).depth ≤ 61)›
                · omega
                · omega
              by_cases h6 : ((sbB Bs x).size ≤ lk ∧ d + 1 + (sbB Bs x).depth ≤ 61)
              · have := (HQ5.out.1 h6).2.1
                omega
              · exact h5 h6
            have hr' : r < 0 := hr
            have f2 := fun i => frozenRow HBr6.out i
            have d0 := cellRow HBr6.out 0 (.string ⟨#[]⟩) rfl
            have d1 := cellRow HBr6.out 1 (.string ⟨#[]⟩) rfl
            have d2 := cellRow HBr6.out 2 (.slice none 0 0) rfl
            go_wp2_with fail
            have hr3 := st3_heap HBr6.out (.string ⟨#[]⟩) (.string ⟨#[]⟩) (.slice none 0 0)
            have hu := st3_upd' (w5.alloc (.cells #[.string q.name, .string q.sort, .slice ya q.kids.length yc] 24)) (w.heap.size + 1) (.string ⟨#[]⟩) (.string ⟨#[]⟩) (.slice none 0 0)
            have e0 := cellRow hr3 0 _ rfl
            have e1 := cellRow hr3 1 _ rfl
            have e2 := cellRow hr3 2 _ rfl
            have hue := HE6.out.trans' hu (fun j hj e => by omega)
            refine bodyPost_ret (v := .tuple #[.agg #[.string ⟨#[]⟩, .string ⟨#[]⟩, .slice none 0 0], .int .i64 (r)]) (by simp [results, Tryz.results90, go_sem, e0, e1, e2]) rfl ?_
            have hpp : ∀ w', PutP Z d (lf + 1) (.mk nul nul []) (r) (.slice none 0 0) w w' := fun w' => PutP.no (hno) (by omega)
            first | exact ⟨.mk nul nul [], none, 0, _, rfl, hpp _, hue⟩ | exact ⟨.mk nul nul [], none, 0, rfl, hpp _, hue⟩
          · have t8 : decide (r < 0) = false := decide_eq_false hr
            have hfit : (sbB Bs x).size ≤ lk ∧ d + 1 + (sbB Bs x).depth ≤ 61 := by
              by_cases h6 : ((sbB Bs x).size ≤ lk ∧ d + 1 + (sbB Bs x).depth ≤ 61)
              · exact h6
              · exact absurd (HQ5.out.2 h6) hr
            obtain ⟨hqz, hrz, Bx, hTx, hBx⟩ := HQ5.out.1 hfit
            obtain ⟨l2, rfl⟩ : ∃ l2 : Nat, r = (l2 : Int) := ⟨lk - (sbB Bs x).size, by omega⟩
            have HL2 : Hid (l2 + sizes ((L.map (sbB Bs)).take (k + 1)) = lf) := Lib.hid (by have h2 := HSX.out.1; have h3 := HLK.out; omega)
            have HD2 : Hid (d + depths ((L.map (sbB Bs)).take (k + 1)) ≤ 60) := Lib.hid (by have h2 := HSX.out.2.1; have h3 := HDK.out; omega)
            have hl2 : l2 ≤ 1000 := by omega
            have HTX := Lib.hid hTx
            have HBX := Lib.hid hBx
            have HQZ := Lib.hid hqz
            have k0 := cellRow HB86.out 0 (.string q.name) rfl
            have k1 := cellRow HB86.out 1 (.string q.sort) rfl
            have k2 := cellRow HB86.out 2 (.slice ya q.kids.length yc) rfl
            have c2 := cellRow HB36.out 2 (.slice la k lc) rfl
            have HOW6 := Lib.hid (((own_kept HJ.out.own HW5.out (fun _ _ h => h)).alloc (.cells #[.string q.name, .string q.sort, .slice ya q.kids.length yc] 24)).alloc (.cells #[.string q.name, .string q.sort, .slice ya q.kids.length yc] 24))
            have hs6 : w.heap.size + 3 ≤ ((w5.alloc (.cells #[.string q.name, .string q.sort, .slice ya q.kids.length yc] 24)).alloc (.cells #[.string q.name, .string q.sort, .slice ya q.kids.length yc] 24)).heap.size := by have h1 := HW5.out.size; have h2 := HSZ.out; simp; omega
            obtain ⟨iT, hi, hz0, hz1, hz2⟩ := info_parts infoT
            clear hTx hBx hqz hrz hfit hr
            generalize hw6 : w5.alloc (.cells #[.string q.name, .string q.sort, .slice ya q.kids.length yc] 24) = w6 at *
            go_wp2_with (at_builtin; refine wpList_append_at _ rfl (.tmp 90) (.tmp 92) 22 rfl (w.heap.size + 3) 24 iT (.agg #[.string ⟨#[]⟩, .string ⟨#[]⟩, .slice none 0 0]) 3 56 Tryz.underlying22 hi hz0 hz1 hz2 rfl (by decide) _ _ _ rfl HOW6.out _ 1 1 [Value.string q.name, .string q.sort, .slice ya q.kids.length yc] rfl rfl ?c1 ?c2 ?c3 ?c4 hs6 ?_)
            case c1 => exact new3 w6 _ _ _ 24
            case c2 => intro u hu; simp at hu; rcases hu with h | h | h <;> (subst h; rfl)
            case c3 => unfold maxLen; omega
            case c4 => omega
            intro v7 w7 hG7
            obtain ⟨a7, c7, hv7⟩ := own_shape hG7.own
            subst hv7
            have HRN : ¬ (Value.slice la k lc).ownBlock = some (w.heap.size + 2) := fun e => by have h1 := (HJ.out.own.lt _ e).1; omega
            have hB7 := hG7.upd.heap (allocOld HB36.out (.cells #[.string q.name, .string q.sort, .slice ya q.kids.length yc] 24)) HRN
            have f7 := fun i => frozenRow hB7 i
            have c2' := cellRow hB7 2 (.slice la k lc) rfl
            have HS8 := Lib.hid ((Upd.refl (fun j => j = w.heap.size + 2) w7).setCell (p := ⟨w.heap.size + 2, 2, none⟩) (.inl rfl) (.slice a7 (k + 1) c7))
            have HX7 : Hid (Ext wr w6) := HX6
            have HU8 : Hid (Upd (fun j => (Value.slice la k lc).ownBlock = some j ∨ j = w.heap.size + 2) wr (w7.setCell ⟨w.heap.size + 2, 2, none⟩ (.slice a7 (k + 1) c7))) := Lib.hid (((((HX7.out.alloc (.cells #[.string q.name, .string q.sort, .slice ya q.kids.length yc] 24)).mono (fun _ _ x => x.elim)).trans (hG7.upd.mono (fun _ _ e => .inl e)))).trans (HS8.out.mono (fun _ _ e => .inr e)))
            have hsz6 : w5.heap.size ≤ w6.heap.size := by rw [← hw6]; simp
            have HT6 : TlO 24 w6 Bx q.kids (.slice ya q.kids.length yc) := by rw [← hw6]; exact HTX.out.kept ((Upd.refl (fun _ => False) w5).alloc (.cells #[.string q.name, .string q.sort, .slice ya q.kids.length yc] 24)) (fun _ _ h => h)
            have HJ8 := Lib.hid (HJ.out.grow (x := q) (by rw [List.length_map]; exact hlt) (by rw [HZX.out, HQZ.out]) (Nat.lt_succ_self (w.heap.size + 2)) HSZ.out (Upd.refl _ _) HX7.out HT6 (fun j hj => ⟨(HBX.out j hj).1, Nat.lt_of_lt_of_le (HBX.out j hj).2 hsz6⟩) ((Upd.refl (fun _ => False) w6).alloc (.cells #[.string q.name, .string q.sort, .slice ya q.kids.length yc] 24)) hG7 HS8.out)
            have HE8 : Hid (Ext w (w7.setCell ⟨w.heap.size + 2, 2, none⟩ (.slice a7 (k + 1) c7))) := Lib.hid (HE.out.trans' HU8.out (fun j hj e => by
              rcases e with e | e
              · have h1 := (HJ.out.own.lt j e).1; omega
              · omega))
            have hne : ∀ j, j < w.heap.size + 2 → ¬ ((Value.slice la k lc).ownBlock = some j ∨ j = w.heap.size + 2) := fun j hj e => by
              rcases e with e | e
              · have h1 := (HJ.out.own.lt _ e).1; omega
              · omega
            have HB28 := Lib.hid (HU8.out.heap HB2.out (hne _ (by omega)))
            have HBr8 := Lib.hid (HU8.out.heap HBr.out (hne _ (by omega)))
            have hb38 := setBlock hB7 2 (.slice a7 (k + 1) c7)
            have HB38 : Hid ((w7.setCell ⟨w.heap.size + 2, 2, none⟩ (.slice a7 (k + 1) c7)).heap[w.heap.size + 2]? = some (.cells #[.string n, .string s, .slice a7 (k + 1) c7] 24 (0, 0))) := Lib.hid (by simpa using hb38)
            have HS9 : Hid (w.heap.size + 3 ≤ (w7.setCell ⟨w.heap.size + 2, 2, none⟩ (.slice a7 (k + 1) c7)).heap.size) := Lib.hid (Nat.le_trans HSZ.out HU8.out.size)
            clear hb38 hne hG7 HT6 hsz6 hB7 hi hz0 hz1 hz2
            go_wp2_with fail
            go_roundg (L.length - (k + 1))
            case measure => omega
            case rel => exact ⟨k + 1, l2, _, _, _, rfl, by go_num, rfl, by omega, hl2, HL2, HJ8, HB28, HBr8, HB38, HE8, HS9, HD2⟩
        · obtain rfl : k = L.length := by omega
          have z2 : decide ((L.length : Int) < (L.length : Int)) = false := decide_eq_false (by omega)
          have hfin := HJ.out
          have hll : (L.map (sbB Bs)).length = L.length := List.length_map ..
          have hlks := HLK.out
          have hdks := HDK.out
          rw [← hll] at hfin
          have hfin := hfin.fin
          have HFIN := Lib.hid hfin
          rw [hll] at HFIN
          rw [← hll, List.take_length] at hlks hdks
          have HLS := Lib.hid (And.intro hlks hdks)
          have c0 := cellRow HB3.out 0 (.string n) rfl
          have c1 := cellRow HB3.out 1 (.string s) rfl
          have c2 := cellRow HB3.out 2 (.slice la L.length lc) rfl
          have f2 := fun i => frozenRow HBr.out i
          have d0 := cellRow HBr.out 0 (.string ⟨#[]⟩) rfl
          have d1 := cellRow HBr.out 1 (.string ⟨#[]⟩) rfl
          have d2 := cellRow HBr.out 2 (.slice none 0 0) rfl
          clear hfin hll hlks hdks
          go_wp2_with fail
          have hr3 := st3_heap HBr.out (.string n) (.string s) (.slice la L.length lc)
          have hu := st3_upd' wr (w.heap.size + 1) (.string n) (.string s) (.slice la L.length lc)
          have e0 := cellRow hr3 0 _ rfl
          have e1 := cellRow hr3 1 _ rfl
          have e2 := cellRow hr3 2 _ rfl
          have hue := HE.out.trans' hu (fun j hj e => by omega)
          refine bodyPost_ret (v := .tuple #[.agg #[.string n, .string s, .slice la L.length lc], .int .i64 ((lk : Int))]) (by simp [results, Tryz.results90, go_sem, e0, e1, e2]) rfl ?_
          have hpp := PutP.yes (z := Z) (d := d) (left := lf + 1) (q := Z) (r := (lk : Int)) (v := .slice la L.length lc) (w := w) (w' := _) rfl (by have h1 := HLS.out.1; have h2 := HZD.out; omega) (fun _ => by have h1 := HLS.out.2; have h2 := HZD.out; omega) ⟨fun j => w.heap.size + 3 ≤ j ∧ j < wr.heap.size, by rw [HZK.out]; simpa using HFIN.out.kept hu (fun j hj e => by have h1 := hj.1; omega), fun j hj => ⟨by have h1 := hj.1; omega, Nat.lt_of_lt_of_le hj.2 hu.size⟩⟩
          rw [HZZ3.out] at hpp ⊢
          have hkk : (L.map (sbB Bs)).length = L.length := List.length_map ..
          refine ⟨.mk n s (L.map (sbB Bs)), la, lc, ?_⟩
          dsimp only [Tm.name, Tm.sort, Tm.kids] at hpp ⊢
          rw [hkk]
          first | exact ⟨_, rfl, hpp, hue⟩ | exact ⟨rfl, hpp, hue⟩
  rw [decide_eq_true hs0] at t1
  have HZZ3 : Hid (Z = .mk n s (L.map (sbB Bs))) := Lib.hid (HZO.out (.inl hs0) (fun h => absurd hs0 h))
  have HZK : Hid (Z.kids = L.map (sbB Bs)) := Lib.hid (by rw [HZZ3.out]; rfl)
  have HZD : Hid (Z.size = sizes (L.map (sbB Bs)) + 1 ∧ Z.depth = depths (L.map (sbB Bs)) + 1) := Lib.hid ⟨by rw [HZZ3.out, size_eq]; rfl, by rw [HZZ3.out, depth_eq]; rfl⟩
  clear HFI hs0 HZO
  by_cases hl0 : left = 0
  · have t5 : decide ((left : Int) - 1 < 0) = true := decide_eq_true (by omega)
    have t5' : (left : Int) - 1 < 0 := by omega
    have hno : ¬ (Z.size ≤ left ∧ d + Z.depth ≤ 61) := fun h => by have h2 := size_pos' Z; omega
    clear hl0
    have f2 := fun i => frozenRow HB3.out i
    have d0 := cellRow HB3.out 0 (.string ⟨#[]⟩) rfl
    have d1 := cellRow HB3.out 1 (.string ⟨#[]⟩) rfl
    have d2 := cellRow HB3.out 2 (.slice none 0 0) rfl
    go_wp2_with fail
    have hr3 := st3_heap HB3.out (.string ⟨#[]⟩) (.string ⟨#[]⟩) (.slice none 0 0)
    have hu := st3_upd' w1 (w.heap.size + 1) (.string ⟨#[]⟩) (.string ⟨#[]⟩) (.slice none 0 0)
    have e0 := cellRow hr3 0 _ rfl
    have e1 := cellRow hr3 1 _ rfl
    have e2 := cellRow hr3 2 _ rfl
    have hue := HZ.out.trans' hu (fun j hj e => by omega)
    refine bodyPost_ret (v := .tuple #[.agg #[.string ⟨#[]⟩, .string ⟨#[]⟩, .slice none 0 0], .int .i64 (-1)]) (by simp [results, Tryz.results90, go_sem, e0, e1, e2]) rfl ?_
    have hpp : ∀ w', PutP Z d left (.mk nul nul []) (-1) (.slice none 0 0) w w' := fun w' => PutP.no (hno) (by omega)
    first | exact ⟨.mk nul nul [], none, 0, _, rfl, hpp _, hue⟩ | exact ⟨.mk nul nul [], none, 0, rfl, hpp _, hue⟩
  have t5 : decide ((left : Int) - 1 < 0) = false := decide_eq_false (by omega)
  have t5' : ¬ (left : Int) - 1 < 0 := by omega
  by_cases hd0 : 60 < d
  · have t6 : decide ((60 : Int) < (d : Int)) = true := decide_eq_true (by omega)
    have t6' : (60 : Int) < (d : Int) := by omega
    have hno : ¬ (Z.size ≤ left ∧ d + Z.depth ≤ 61) := fun h => by have h2 := depth_pos' Z; omega
    clear hl0 hd0
    have f2 := fun i => frozenRow HB3.out i
    have d0 := cellRow HB3.out 0 (.string ⟨#[]⟩) rfl
    have d1 := cellRow HB3.out 1 (.string ⟨#[]⟩) rfl
    have d2 := cellRow HB3.out 2 (.slice none 0 0) rfl
    go_wp2_with fail
    have hr3 := st3_heap HB3.out (.string ⟨#[]⟩) (.string ⟨#[]⟩) (.slice none 0 0)
    have hu := st3_upd' w1 (w.heap.size + 1) (.string ⟨#[]⟩) (.string ⟨#[]⟩) (.slice none 0 0)
    have e0 := cellRow hr3 0 _ rfl
    have e1 := cellRow hr3 1 _ rfl
    have e2 := cellRow hr3 2 _ rfl
    have hue := HZ.out.trans' hu (fun j hj e => by omega)
    refine bodyPost_ret (v := .tuple #[.agg #[.string ⟨#[]⟩, .string ⟨#[]⟩, .slice none 0 0], .int .i64 (-1)]) (by simp [results, Tryz.results90, go_sem, e0, e1, e2]) rfl ?_
    have hpp : ∀ w', PutP Z d left (.mk nul nul []) (-1) (.slice none 0 0) w w' := fun w' => PutP.no (hno) (by omega)
    first | exact ⟨.mk nul nul [], none, 0, _, rfl, hpp _, hue⟩ | exact ⟨.mk nul nul [], none, 0, rfl, hpp _, hue⟩
  have t6 : decide ((60 : Int) < (d : Int)) = false := decide_eq_false (by omega)
  have t6' : ¬ (60 : Int) < (d : Int) := by omega
  obtain ⟨lf, rfl⟩ : ∃ lf, left = lf + 1 := ⟨left - 1, by omega⟩
  have t7 : ((lf + 1 : Nat) : Int) - 1 = (lf : Int) := by omega
  have HD := Lib.hid (show d ≤ 60 by omega)
  clear hl0 hd0
  have hX4 := (Upd.refl (fun _ => False) w1).alloc (.cells #[.string n, .string s, .slice none 0 0] 24)
  have HB24 := Lib.hid (allocOld HB2.out (.cells #[.string n, .string s, .slice none 0 0] 24))
  have HB34 := Lib.hid (allocOld HB3.out (.cells #[.string n, .string s, .slice none 0 0] 24))
  have HB44 := Lib.hid (show (w1.alloc (.cells #[.string n, .string s, .slice none 0 0] 24)).heap[w.heap.size + 2]? = some (.cells #[.string n, .string s, .slice none 0 0] 24 (0, 0)) from alloc_at w1 (.cells #[.string n, .string s, .slice none 0 0] 24) HS1.out.symm)
  have HE4 := Lib.hid (HZ.out.trans hX4)
  have HS4 : Hid (w.heap.size + 3 ≤ (w1.alloc (.cells #[.string n, .string s, .slice none 0 0] 24)).heap.size) := Lib.hid (by have := HS1.out; simp; omega)
  go_wp2_with fail
  try rw [HS1.out]
  generalize w1.alloc (.cells #[.string n, .string s, .slice none 0 0] 24) = w4 at *
  clear hX4 x0 x1 x2 HB2 HB3
  have HJ0 : Hid (CpJ 24 (w.heap.size + 3) w4 (L.map (sbB Bs)) (.slice none 0 0) [] (fun _ _ => False) 0) := Lib.hid ⟨rfl, ⟨rfl, .inl ⟨rfl, rfl⟩⟩, fun i hi => absurd hi (Nat.not_lt_zero _), fun i j hi => absurd hi (Nat.not_lt_zero _), fun i i' j hi => absurd hi (Nat.not_lt_zero _)⟩
  go_loopg [3, 13] L.length (fun gk l3 iv wr => ∃ (k lk : Nat) (lv : Value) (us : List Value) (Bk : Nat → Nat → Prop), l3 = .int .i64 (lk : Int) ∧ iv = .int .i64 (k : Int) ∧ gk = L.length - k ∧ k ≤ L.length ∧ lk ≤ 1000 ∧ Hid (lk + sizes ((L.map (sbB Bs)).take k) = lf) ∧ Hid (CpJ 24 (w.heap.size + 3) wr (L.map (sbB Bs)) lv us Bk k) ∧ Hid (wr.heap[w.heap.size]? = some (.cells #[.string n, .string s, .slice a L.length cap] 24 (0, 0))) ∧ Hid (wr.heap[w.heap.size + 1]? = some (.cells #[.string ⟨#[]⟩, .string ⟨#[]⟩, .slice none 0 0] 24 (0, 0))) ∧ Hid (wr.heap[w.heap.size + 2]? = some (.cells #[.string n, .string s, lv] 24 (0, 0))) ∧ Hid (Ext w wr) ∧ Hid (w.heap.size + 3 ≤ wr.heap.size) ∧ Hid (d + depths ((L.map (sbB Bs)).take k) ≤ 60))
  case atStart => exact ⟨0, lf, _, _, _, rfl, rfl, rfl, Nat.zero_le _, by omega, Lib.hid (by simp [sizes]), HJ0, HB24, HB34, HB44, HE4, HS4, Lib.hid (by simp [depths]; exact HD.out)⟩
  case round =>
    clear HJ0 HB24 HB34 HB44 HE4 HS4 t7 t5 t5'
    obtain ⟨k, lk, lv, us, Bk, rfl, rfl, rfl, hk, hlk, HLK, HJ, HB2, HBr, HB3, HE, HSZ, HDK⟩ := hrel
    obtain ⟨la, lc, hlv⟩ := own_shape HJ.out.own
    subst hlv
    have b0 := cellRow HB2.out 0 (.string n) rfl
    have b1 := cellRow HB2.out 1 (.string s) rfl
    have b2 := cellRow HB2.out 2 (.slice a L.length cap) rfl
    by_cases hlt : k < L.length
    · obtain ⟨g, off, hga, _, hat⟩ := (HTL.out.ext HE.out).at_ (by omega)
      subst hga
      obtain ⟨xa, xc, q0, q1, q2, hkid⟩ := hat k hlt
      rw [← Nat.add_assoc] at q1 q2
      have z0 : (0 : Int) ≤ (k : Int) := by omega
      have z1 : (k : Int) < (L.length : Int) := by omega
      have z2 : decide ((k : Int) < (L.length : Int)) = true := decide_eq_true z1
      have z2' : decide (k < L.length) = true := decide_eq_true hlt
      have HIX := Lib.hid (HIH.out (tg L k) (tg_mem L k hlt) _ S wr (d + 1) lk (HW0.out.trans HE.out) ⟨xa, xc, rfl, hkid⟩ (fun j hj => Nat.lt_of_lt_of_le (HSS.out j hj) HE.out.size) (by have h1 := HSL.out; have h2 := size_mem (tg_mem L k hlt); omega) (HNP.out.kid (tg_mem L k hlt)) (by have := HD.out; omega) hlk)
      have hd1 : ((d + 1 : Nat) : Int) = (d : Int) + 1 := by omega
      rw [hd1] at HIX
      dsimp only [tV] at HIX
      have hlm : k < (L.map (sbB Bs)).length := by rw [List.length_map]; exact hlt
      have hsx := sizes_take (L.map (sbB Bs)) k hlm
      have hdx := depths_take (L.map (sbB Bs)) k hlm
      have hsl := sizes_take_le (L.map (sbB Bs)) (k + 1)
      have hdl := depths_take_le (L.map (sbB Bs)) (k + 1)
      have hzx : tg (L.map (sbB Bs)) k = sbB Bs (tg L k) := by
        unfold tg
        rw [List.getD_eq_getElem?_getD, List.getD_eq_getElem?_getD, List.getElem?_map, List.getElem?_eq_getElem hlt]
        rfl
      rw [hzx] at hsx hdx
      obtain ⟨x, hx⟩ : ∃ x, tg L k = x := ⟨_, rfl⟩
      rw [hx] at q0 q1 q2 HIX hzx hsx hdx
      have HZX := Lib.hid hzx
      have HSX := Lib.hid (And.intro hsx (And.intro hdx (And.intro hsl hdl)))
      clear hat hkid hx hzx hsx hdx hsl hdl hlm hd1
      go_wp2_with fail
      refine HIX.out.mono ?_
      rintro e w5 ⟨q, ya, yc, r, rfl, hq, hw5⟩
      have HQ5 := Lib.hid hq
      have HW5 := Lib.hid hw5
      have HX6 := Lib.hid (hw5.alloc (.cells #[.string q.name, .string q.sort, .slice ya q.kids.length yc] 24))
      have HB26 := Lib.hid (allocOld (hw5.heap HB2.out (fun h => h)) (.cells #[.string q.name, .string q.sort, .slice ya q.kids.length yc] 24))
      have HBr6 := Lib.hid (allocOld (hw5.heap HBr.out (fun h => h)) (.cells #[.string q.name, .string q.sort, .slice ya q.kids.length yc] 24))
      have HB36 := Lib.hid (allocOld (hw5.heap HB3.out (fun h => h)) (.cells #[.string q.name, .string q.sort, .slice ya q.kids.length yc] 24))
      have HB86 := Lib.hid (alloc0 w5 (.cells #[.string q.name, .string q.sort, .slice ya q.kids.length yc] 24))
      have HS6 := Lib.hid (Nat.le_trans HSZ.out HX6.out.size)
      clear hq hw5 HIX b0 b1 b2 q0 q1 q2
      by_cases hr : r < 0
      · have t8 : decide (r < 0) = true := decide_eq_true hr
        have HE6 := Lib.hid (HE.out.trans HX6.out)
        have hno : ¬ (Z.size ≤ lf + 1 ∧ d + Z.depth ≤ 61) := fun h => by
          have h1 := HQ5.out.2
          have h2 := HSX.out
          have h3 := HLK.out
          have h4 := HZD.out
          have h5 : ¬ ((sbB Bs x).size ≤ lk ∧ d + 1 + (sbB Bs x).depth ≤ 61) → False := fun _ => by
            refine absurd (And.intro ?_ ?_) ‹¬ ((sbB Bs x).size ≤ lk ∧ d + 1 + (sbB Bs x).depth ≤ 61)›
            · omega
            · omega
          by_cases h6 : ((sbB Bs x).size ≤ lk ∧ d + 1 + (sbB Bs x).depth ≤ 61)
          · have := (HQ5.out.1 h6).2.1
            omega
          · exact h5 h6
        have hr' : r < 0 := hr
        have f2 := fun i => frozenRow HBr6.out i
        have d0 := cellRow HBr6.out 0 (.string ⟨#[]⟩) rfl
        have d1 := cellRow HBr6.out 1 (.string ⟨#[]⟩) rfl
        have d2 := cellRow HBr6.out 2 (.slice none 0 0) rfl
        go_wp2_with fail
        have hr3 := st3_heap HBr6.out (.string ⟨#[]⟩) (.string ⟨#[]⟩) (.slice none 0 0)
        have hu := st3_upd' (w5.alloc (.cells #[.string q.name, .string q.sort, .slice ya q.kids.length yc] 24)) (w.heap.size + 1) (.string ⟨#[]⟩) (.string ⟨#[]⟩) (.slice none 0 0)
        have e0 := cellRow hr3 0 _ rfl
        have e1 := cellRow hr3 1 _ rfl
        have e2 := cellRow hr3 2 _ rfl
        have hue := HE6.out.trans' hu (fun j hj e => by omega)
        refine bodyPost_ret (v := .tuple #[.agg #[.string ⟨#[]⟩, .string ⟨#[]⟩, .slice none 0 0], .int .i64 (r)]) (by simp [results, Tryz.results90, go_sem, e0, e1, e2]) rfl ?_
        have hpp : ∀ w', PutP Z d (lf + 1) (.mk nul nul []) (r) (.slice none 0 0) w w' := fun w' => PutP.no (hno) (by omega)
        first | exact ⟨.mk nul nul [], none, 0, _, rfl, hpp _, hue⟩ | exact ⟨.mk nul nul [], none, 0, rfl, hpp _, hue⟩
      · have t8 : decide (r < 0) = false := decide_eq_false hr
        have hfit : (sbB Bs x).size ≤ lk ∧ d + 1 + (sbB Bs x).depth ≤ 61 := by
          by_cases h6 : ((sbB Bs x).size ≤ lk ∧ d + 1 + (sbB Bs x).depth ≤ 61)
          · exact h6
          · exact absurd (HQ5.out.2 h6) hr
        obtain ⟨hqz, hrz, Bx, hTx, hBx⟩ := HQ5.out.1 hfit
        obtain ⟨l2, rfl⟩ : ∃ l2 : Nat, r = (l2 : Int) := ⟨lk - (sbB Bs x).size, by omega⟩
        have HL2 : Hid (l2 + sizes ((L.map (sbB Bs)).take (k + 1)) = lf) := Lib.hid (by have h2 := HSX.out.1; have h3 := HLK.out; omega)
        have HD2 : Hid (d + depths ((L.map (sbB Bs)).take (k + 1)) ≤ 60) := Lib.hid (by have h2 := HSX.out.2.1; have h3 := HDK.out; omega)
        have hl2 : l2 ≤ 1000 := by omega
        have HTX := Lib.hid hTx
        have HBX := Lib.hid hBx
        have HQZ := Lib.hid hqz
        have k0 := cellRow HB86.out 0 (.string q.name) rfl
        have k1 := cellRow HB86.out 1 (.string q.sort) rfl
        have k2 := cellRow HB86.out 2 (.slice ya q.kids.length yc) rfl
        have c2 := cellRow HB36.out 2 (.slice la k lc) rfl
        have HOW6 := Lib.hid (((own_kept HJ.out.own HW5.out (fun _ _ h => h)).alloc (.cells #[.string q.name, .string q.sort, .slice ya q.kids.length yc] 24)).alloc (.cells #[.string q.name, .string q.sort, .slice ya q.kids.length yc] 24))
        have hs6 : w.heap.size + 3 ≤ ((w5.alloc (.cells #[.string q.name, .string q.sort, .slice ya q.kids.length yc] 24)).alloc (.cells #[.string q.name, .string q.sort, .slice ya q.kids.length yc] 24)).heap.size := by have h1 := HW5.out.size; have h2 := HSZ.out; simp; omega
        obtain ⟨iT, hi, hz0, hz1, hz2⟩ := info_parts infoT
        clear hTx hBx hqz hrz hfit hr
        generalize hw6 : w5.alloc (.cells #[.string q.name, .string q.sort, .slice ya q.kids.length yc] 24) = w6 at *
        go_wp2_with (at_builtin; refine wpList_append_at _ rfl (.tmp 90) (.tmp 92) 22 rfl (w.heap.size + 3) 24 iT (.agg #[.string ⟨#[]⟩, .string ⟨#[]⟩, .slice none 0 0]) 3 56 Tryz.underlying22 hi hz0 hz1 hz2 rfl (by decide) _ _ _ rfl HOW6.out _ 1 1 [Value.string q.name, .string q.sort, .slice ya q.kids.length yc] rfl rfl ?c1 ?c2 ?c3 ?c4 hs6 ?_)
        case c1 => exact new3 w6 _ _ _ 24
        case c2 => intro u hu; simp at hu; rcases hu with h | h | h <;> (subst h; rfl)
        case c3 => unfold maxLen; omega
        case c4 => omega
        intro v7 w7 hG7
        obtain ⟨a7, c7, hv7⟩ := own_shape hG7.own
        subst hv7
        have HRN : ¬ (Value.slice la k lc).ownBlock = some (w.heap.size + 2) := fun e => by have h1 := (HJ.out.own.lt _ e).1; omega
        have hB7 := hG7.upd.heap (allocOld HB36.out (.cells #[.string q.name, .string q.sort, .slice ya q.kids.length yc] 24)) HRN
        have f7 := fun i => frozenRow hB7 i
        have c2' := cellRow hB7 2 (.slice la k lc) rfl
        have HS8 := Lib.hid ((Upd.refl (fun j => j = w.heap.size + 2) w7).setCell (p := ⟨w.heap.size + 2, 2, none⟩) (.inl rfl) (.slice a7 (k + 1) c7))
        have HX7 : Hid (Ext wr w6) := HX6
        have HU8 : Hid (Upd (fun j => (Value.slice la k lc).ownBlock = some j ∨ j = w.heap.size + 2) wr (w7.setCell ⟨w.heap.size + 2, 2, none⟩ (.slice a7 (k + 1) c7))) := Lib.hid (((((HX7.out.alloc (.cells #[.string q.name, .string q.sort, .slice ya q.kids.length yc] 24)).mono (fun _ _ x => x.elim)).trans (hG7.upd.mono (fun _ _ e => .inl e)))).trans (HS8.out.mono (fun _ _ e => .inr e)))
        have hsz6 : w5.heap.size ≤ w6.heap.size := by rw [← hw6]; simp
        have HT6 : TlO 24 w6 Bx q.kids (.slice ya q.kids.length yc) := by rw [← hw6]; exact HTX.out.kept ((Upd.refl (fun _ => False) w5).alloc (.cells #[.string q.name, .string q.sort, .slice ya q.kids.length yc] 24)) (fun _ _ h => h)
        have HJ8 := Lib.hid (HJ.out.grow (x := q) (by rw [List.length_map]; exact hlt) (by rw [HZX.out, HQZ.out]) (Nat.lt_succ_self (w.heap.size + 2)) HSZ.out (Upd.refl _ _) HX7.out HT6 (fun j hj => ⟨(HBX.out j hj).1, Nat.lt_of_lt_of_le (HBX.out j hj).2 hsz6⟩) ((Upd.refl (fun _ => False) w6).alloc (.cells #[.string q.name, .string q.sort, .slice ya q.kids.length yc] 24)) hG7 HS8.out)
        have HE8 : Hid (Ext w (w7.setCell ⟨w.heap.size + 2, 2, none⟩ (.slice a7 (k + 1) c7))) := Lib.hid (HE.out.trans' HU8.out (fun j hj e => by
          rcases e with e | e
          · have h1 := (HJ.out.own.lt j e).1; omega
          · omega))
        have hne : ∀ j, j < w.heap.size + 2 → ¬ ((Value.slice la k lc).ownBlock = some j ∨ j = w.heap.size + 2) := fun j hj e => by
          rcases e with e | e
          · have h1 := (HJ.out.own.lt _ e).1; omega
          · omega
        have HB28 := Lib.hid (HU8.out.heap HB2.out (hne _ (by omega)))
        have HBr8 := Lib.hid (HU8.out.heap HBr.out (hne _ (by omega)))
        have hb38 := setBlock hB7 2 (.slice a7 (k + 1) c7)
        have HB38 : Hid ((w7.setCell ⟨w.heap.size + 2, 2, none⟩ (.slice a7 (k + 1) c7)).heap[w.heap.size + 2]? = some (.cells #[.string n, .string s, .slice a7 (k + 1) c7] 24 (0, 0))) := Lib.hid (by simpa using hb38)
        have HS9 : Hid (w.heap.size + 3 ≤ (w7.setCell ⟨w.heap.size + 2, 2, none⟩ (.slice a7 (k + 1) c7)).heap.size) := Lib.hid (Nat.le_trans HSZ.out HU8.out.size)
        clear hb38 hne hG7 HT6 hsz6 hB7 hi hz0 hz1 hz2
        go_wp2_with fail
        go_roundg (L.length - (k + 1))
        case measure => omega
        case rel => exact ⟨k + 1, l2, _, _, _, rfl, by go_num, rfl, by omega, hl2, HL2, HJ8, HB28, HBr8, HB38, HE8, HS9, HD2⟩
    · obtain rfl : k = L.length := by omega
      have z2 : decide ((L.length : Int) < (L.length : Int)) = false := decide_eq_false (by omega)
      have hfin := HJ.out
      have hll : (L.map (sbB Bs)).length = L.length := List.length_map ..
      have hlks := HLK.out
      have hdks := HDK.out
      rw [← hll] at hfin
      have hfin := hfin.fin
      have HFIN := Lib.hid hfin
      rw [hll] at HFIN
      rw [← hll, List.take_length] at hlks hdks
      have HLS := Lib.hid (And.intro hlks hdks)
      have c0 := cellRow HB3.out 0 (.string n) rfl
      have c1 := cellRow HB3.out 1 (.string s) rfl
      have c2 := cellRow HB3.out 2 (.slice la L.length lc) rfl
      have f2 := fun i => frozenRow HBr.out i
      have d0 := cellRow HBr.out 0 (.string ⟨#[]⟩) rfl
      have d1 := cellRow HBr.out 1 (.string ⟨#[]⟩) rfl
      have d2 := cellRow HBr.out 2 (.slice none 0 0) rfl
      clear hfin hll hlks hdks
      go_wp2_with fail
      have hr3 := st3_heap HBr.out (.string n) (.string s) (.slice la L.length lc)
      have hu := st3_upd' wr (w.heap.size + 1) (.string n) (.string s) (.slice la L.length lc)
      have e0 := cellRow hr3 0 _ rfl
      have e1 := cellRow hr3 1 _ rfl
      have e2 := cellRow hr3 2 _ rfl
      have hue := HE.out.trans' hu (fun j hj e => by omega)
      refine bodyPost_ret (v := .tuple #[.agg #[.string n, .string s, .slice la L.length lc], .int .i64 ((lk : Int))]) (by simp [results, Tryz.results90, go_sem, e0, e1, e2]) rfl ?_
      have hpp := PutP.yes (z := Z) (d := d) (left := lf + 1) (q := Z) (r := (lk : Int)) (v := .slice la L.length lc) (w := w) (w' := _) rfl (by have h1 := HLS.out.1; have h2 := HZD.out; omega) (fun _ => by have h1 := HLS.out.2; have h2 := HZD.out; omega) ⟨fun j => w.heap.size + 3 ≤ j ∧ j < wr.heap.size, by rw [HZK.out]; simpa using HFIN.out.kept hu (fun j hj e => by have h1 := hj.1; omega), fun j hj => ⟨by have h1 := hj.1; omega, Nat.lt_of_lt_of_le hj.2 hu.size⟩⟩
      rw [HZZ3.out] at hpp ⊢
      have hkk : (L.map (sbB Bs)).length = L.length := List.length_map ..
      refine ⟨.mk n s (L.map (sbB Bs)), la, lc, ?_⟩
      dsimp only [Tm.name, Tm.sort, Tm.kids] at hpp ⊢
      rw [hkk]
      first | exact ⟨_, rfl, hpp, hue⟩ | exact ⟨rfl, hpp, hue⟩

end Go.Proofs.YtlkcjmaiahnodaaGreatDoor

/- Apply, of the reference. -/
namespace Go.Proofs.YtlkcjmaiahnodaaGreatDoor
open Go.RowKit Go.Hw Go
set_option linter.unusedVariables false
set_option linter.unusedSimpArgs false

open Tm Go.Sort Go.Proofs Go.ChangeMaps
set_option maxRecDepth 100000 in
set_option maxHeartbeats 2000000 in
theorem rApply_x (Bs : List Bd) (t : Tm) (vB v : Value) (w : World) (hB : BnR (fun k => k < w.heap.size) (fun k => k < w.heap.size) w vB Bs) (hR : TmR (fun k => k < w.heap.size) w t v) (hl : Bs.length ≤ 1000000) :
    Calls Tryz.prog 30 #[vB, v] w fun e w' => ∃ r B, e = .returned (.tuple #[tV (appF nmB Bs t).1 r, .int .i64 (appF nmB Bs t).2]) ∧ TlO 24 w' B (appF nmB Bs t).1.kids r ∧ (∀ j, B j → w.heap.size ≤ j ∧ j < w'.heap.size) ∧ Ext w w' := by
  obtain ⟨Z, hZZ⟩ : ∃ Z, appF nmB Bs t = Z := ⟨_, rfl⟩
  rw [hZZ]
  have HZZ := Lib.hid hZZ
  clear hZZ
  have HV := Lib.hid (fun W (hW : Ext w W) => rvalB_x Bs vB W _ ((hB.ext hW).weaken (fun k hk => Nat.lt_of_lt_of_le hk hW.size) (fun k hk => hk)) hl)
  have HF := Lib.hid (fun W (hW : Ext w W) => rformed_x t v _ W (hR.ext hW))
  have HC := Lib.hid (fun (h2 : wf nmB t = true) W (hW : Ext w W) => clash_x Bs t vB v _ _ _ W (hB.ext hW) (hR.ext hW) h2 hl)
  have HP := Lib.hid (fun (h1 : vldB nmB Bs = true) (h2 : wf nmB t = true) W (hW : Ext w W) => put05_x Bs vB _ _ w (Lib.hid hB) (Lib.hid (fun k hk => hk)) (Lib.hid hl) (Lib.hid (fun b hb => by have := wf_size ((vldB_spec h1).2.2 b hb).2.2.1; omega)) t v _ W 1 1000 hW (hR.ext hW) (fun k hk => Nat.lt_of_lt_of_le hk hW.size) (by have := wf_size h2; omega) (wf_nop h2) (by decide) (by decide))
  obtain ⟨va, vc, rfl⟩ := hB.shape
  obtain ⟨a, cap, rfl, hT⟩ := hR
  dsimp only [tV] at HF HC HP ⊢
  have hZ := ((Upd.refl (fun _ => False) w).alloc (.cells #[.string t.name, .string t.sort, .slice a t.kids.length cap] 24)).alloc (.cells #[.string ⟨#[]⟩, .string ⟨#[]⟩, .slice none 0 0] 24)
  have H2 := Lib.hid (allocOld (alloc0 w (.cells #[.string t.name, .string t.sort, .slice a t.kids.length cap] 24)) (.cells #[.string ⟨#[]⟩, .string ⟨#[]⟩, .slice none 0 0] 24))
  have H3 := Lib.hid (alloc_at (w.alloc (.cells #[.string t.name, .string t.sort, .slice a t.kids.length cap] 24)) (.cells #[.string ⟨#[]⟩, .string ⟨#[]⟩, .slice none 0 0] 24) (n := w.heap.size + 1) (by simp))
  have hz2 : w.heap.size + 2 ≤ ((w.alloc (.cells #[.string t.name, .string t.sort, .slice a t.kids.length cap] 24)).alloc (.cells #[.string ⟨#[]⟩, .string ⟨#[]⟩, .slice none 0 0] 24)).heap.size := by simp
  have HZ2 := Lib.hid hz2
  have x0 := cellRow H2.out 0 (.string t.name) rfl
  have x1 := cellRow H2.out 1 (.string t.sort) rfl
  have x2 := cellRow H2.out 2 (.slice a t.kids.length cap) rfl
  have HZ := Lib.hid hZ
  have hAP : Hid (Z = if (vldB nmB Bs && wf nmB t) = true then (if clsh Bs t = true then (.mk nul nul [], 11) else if 1000 < (sbB Bs t).size ∨ 60 < (sbB Bs t).depth then (.mk nul nul [], 4) else if wf nmB (sbB Bs t) = false then (.mk nul nul [], 11) else (sbB Bs t, 0)) else (.mk nul nul [], 1)) := Lib.hid (by rw [← HZZ.out]; rfl)
  obtain ⟨b1, hb1⟩ : ∃ b, vldB nmB Bs = b := ⟨_, rfl⟩
  obtain ⟨b2, hb2⟩ : ∃ b, wf nmB t = b := ⟨_, rfl⟩
  obtain ⟨b3, hb3⟩ : ∃ b, clsh Bs t = b := ⟨_, rfl⟩
  rw [hb1] at HV HP hAP
  rw [hb2] at HF HC HP hAP
  rw [hb3] at HC hAP
  clear hT hB hl hZ hz2 HZZ hb1 hb2 hb3
  go_enter Tryz.func30, Tryz.ntmps30
  go_wp2_with fail
  generalize ((w.alloc (.cells #[.string t.name, .string t.sort, .slice a t.kids.length cap] 24)).alloc (.cells #[.string ⟨#[]⟩, .string ⟨#[]⟩, .slice none 0 0] 24)) = wa at *
  refine (HV.out _ HZ.out).mono ?_
  rintro e w3 ⟨rfl, hw3⟩
  have HE3 := Lib.hid (HZ.out.trans hw3)
  have H23 := Lib.hid (hw3.heap H2.out (fun h => h))
  have H33 := Lib.hid (hw3.heap H3.out (fun h => h))
  have HS3 : Hid (w.heap.size + 2 ≤ w3.heap.size) := Lib.hid (Nat.le_trans HZ2.out hw3.size)
  clear hw3 x0 x1 x2 H2 H3 HZ HV HZ2
  cases b1
  · obtain rfl : Z = (.mk nul nul [], 1) := by have := hAP.out; simpa using this
    have d0 := cellRow H33.out 0 (.string ⟨#[]⟩) rfl
    have d1 := cellRow H33.out 1 (.string ⟨#[]⟩) rfl
    have d2 := cellRow H33.out 2 (.slice none 0 0) rfl
    have f2 := fun i => frozenRow H33.out i
    go_wp2_with fail
    have hr3 := st3_heap H33.out (.string ⟨#[]⟩) (.string ⟨#[]⟩) (.slice none 0 0)
    have hu := st3_upd' w3 (w.heap.size + 1) (.string ⟨#[]⟩) (.string ⟨#[]⟩) (.slice none 0 0)
    have e0 := cellRow hr3 0 _ rfl
    have e1 := cellRow hr3 1 _ rfl
    have e2 := cellRow hr3 2 _ rfl
    refine bodyPost_ret (v := .tuple #[.agg #[.string ⟨#[]⟩, .string ⟨#[]⟩, .slice none 0 0], .int .i64 1]) (by simp [results, Tryz.results30, go_sem, e0, e1, e2]) rfl ?_
    have hue := HE3.out.trans' hu (fun j hj e => by omega)
    first | exact ⟨.slice none 0 0, fun _ => False, rfl, TlO.nil _ _ _, fun j hj => hj.elim, hue⟩ | exact ⟨.slice none 0 0, rfl, fun _ => False, TlO.nil _ _ _, fun j hj => hj.elim, hue⟩
  have x0 := cellRow H23.out 0 (.string t.name) rfl
  have x1 := cellRow H23.out 1 (.string t.sort) rfl
  have x2 := cellRow H23.out 2 (.slice a t.kids.length cap) rfl
  go_wp2_with fail
  refine (HF.out _ HE3.out).mono ?_
  rintro e w4 ⟨rfl, hw4⟩
  have HE4 := Lib.hid (HE3.out.trans hw4)
  have H24 := Lib.hid (hw4.heap H23.out (fun h => h))
  have H34 := Lib.hid (hw4.heap H33.out (fun h => h))
  have HS4 : Hid (w.heap.size + 2 ≤ w4.heap.size) := Lib.hid (Nat.le_trans HS3.out hw4.size)
  clear hw4 x0 x1 x2 H23 H33 HE3 HF HS3
  cases b2
  · obtain rfl : Z = (.mk nul nul [], 1) := by have := hAP.out; simpa using this
    have d0 := cellRow H34.out 0 (.string ⟨#[]⟩) rfl
    have d1 := cellRow H34.out 1 (.string ⟨#[]⟩) rfl
    have d2 := cellRow H34.out 2 (.slice none 0 0) rfl
    have f2 := fun i => frozenRow H34.out i
    go_wp2_with fail
    have hr3 := st3_heap H34.out (.string ⟨#[]⟩) (.string ⟨#[]⟩) (.slice none 0 0)
    have hu := st3_upd' w4 (w.heap.size + 1) (.string ⟨#[]⟩) (.string ⟨#[]⟩) (.slice none 0 0)
    have e0 := cellRow hr3 0 _ rfl
    have e1 := cellRow hr3 1 _ rfl
    have e2 := cellRow hr3 2 _ rfl
    refine bodyPost_ret (v := .tuple #[.agg #[.string ⟨#[]⟩, .string ⟨#[]⟩, .slice none 0 0], .int .i64 1]) (by simp [results, Tryz.results30, go_sem, e0, e1, e2]) rfl ?_
    have hue := HE4.out.trans' hu (fun j hj e => by omega)
    first | exact ⟨.slice none 0 0, fun _ => False, rfl, TlO.nil _ _ _, fun j hj => hj.elim, hue⟩ | exact ⟨.slice none 0 0, rfl, fun _ => False, TlO.nil _ _ _, fun j hj => hj.elim, hue⟩
  have x0 := cellRow H24.out 0 (.string t.name) rfl
  have x1 := cellRow H24.out 1 (.string t.sort) rfl
  have x2 := cellRow H24.out 2 (.slice a t.kids.length cap) rfl
  go_wp2_with fail
  refine (HC.out (by simp) _ HE4.out).mono ?_
  rintro e w5 ⟨rfl, hw5⟩
  have HE5 := Lib.hid (HE4.out.trans hw5)
  have H25 := Lib.hid (hw5.heap H24.out (fun h => h))
  have H35 := Lib.hid (hw5.heap H34.out (fun h => h))
  have HS5 : Hid (w.heap.size + 2 ≤ w5.heap.size) := Lib.hid (Nat.le_trans HS4.out hw5.size)
  clear hw5 x0 x1 x2 H24 H34 HE4 HC HS4
  cases b3
  rotate_left
  · obtain rfl : Z = (.mk nul nul [], 11) := by have := hAP.out; simpa using this
    have d0 := cellRow H35.out 0 (.string ⟨#[]⟩) rfl
    have d1 := cellRow H35.out 1 (.string ⟨#[]⟩) rfl
    have d2 := cellRow H35.out 2 (.slice none 0 0) rfl
    have f2 := fun i => frozenRow H35.out i
    go_wp2_with fail
    have hr3 := st3_heap H35.out (.string ⟨#[]⟩) (.string ⟨#[]⟩) (.slice none 0 0)
    have hu := st3_upd' w5 (w.heap.size + 1) (.string ⟨#[]⟩) (.string ⟨#[]⟩) (.slice none 0 0)
    have e0 := cellRow hr3 0 _ rfl
    have e1 := cellRow hr3 1 _ rfl
    have e2 := cellRow hr3 2 _ rfl
    refine bodyPost_ret (v := .tuple #[.agg #[.string ⟨#[]⟩, .string ⟨#[]⟩, .slice none 0 0], .int .i64 11]) (by simp [results, Tryz.results30, go_sem, e0, e1, e2]) rfl ?_
    have hue := HE5.out.trans' hu (fun j hj e => by omega)
    first | exact ⟨.slice none 0 0, fun _ => False, rfl, TlO.nil _ _ _, fun j hj => hj.elim, hue⟩ | exact ⟨.slice none 0 0, rfl, fun _ => False, TlO.nil _ _ _, fun j hj => hj.elim, hue⟩
  have x0 := cellRow H25.out 0 (.string t.name) rfl
  have x1 := cellRow H25.out 1 (.string t.sort) rfl
  have x2 := cellRow H25.out 2 (.slice a t.kids.length cap) rfl
  have HA2 := Lib.hid (HP.out (by simp) (by simp) w5 HE5.out)
  have hAP2 : Z = (if 1000 < (sbB Bs t).size ∨ 60 < (sbB Bs t).depth then (.mk nul nul [], 4) else if wf nmB (sbB Bs t) = false then (.mk nul nul [], 11) else (sbB Bs t, 0)) := by have := hAP.out; simpa using this
  have HAP := Lib.hid hAP2
  obtain ⟨z, hz⟩ : ∃ z, sbB Bs t = z := ⟨_, rfl⟩
  rw [hz] at HA2 HAP
  clear HP hAP hAP2 hz
  go_wp2_with fail
  refine HA2.out.mono ?_
  rintro e w6 ⟨q, ya, yc, r, rfl, hq, hw6⟩
  have hX7 := hw6.alloc (.cells #[.string q.name, .string q.sort, .slice ya q.kids.length yc] 24)
  have HQ := Lib.hid hq
  have HE7 := Lib.hid (HE5.out.trans hX7)
  have H37 := Lib.hid (hX7.heap H35.out (fun h => h))
  have HB7 := Lib.hid (alloc0 w6 (.cells #[.string q.name, .string q.sort, .slice ya q.kids.length yc] 24))
  have HX67 := Lib.hid ((Upd.refl (fun _ => False) w6).alloc (.cells #[.string q.name, .string q.sort, .slice ya q.kids.length yc] 24))
  clear hX7 hq hw6 HA2 x0 x1 x2
  by_cases hr : r < 0
  · have t8 : decide (r < 0) = true := decide_eq_true hr
    obtain rfl : Z = (.mk nul nul [], 4) := by
      rw [HAP.out, if_pos]
      by_cases h6 : (z.size ≤ 1000 ∧ 1 + z.depth ≤ 61)
      · have := (HQ.out.1 h6).2.1; omega
      · omega
    have d0 := cellRow H37.out 0 (.string ⟨#[]⟩) rfl
    have d1 := cellRow H37.out 1 (.string ⟨#[]⟩) rfl
    have d2 := cellRow H37.out 2 (.slice none 0 0) rfl
    have f2 := fun i => frozenRow H37.out i
    go_wp2_with fail
    have hr3 := st3_heap H37.out (.string ⟨#[]⟩) (.string ⟨#[]⟩) (.slice none 0 0)
    have hu := st3_upd' (w6.alloc (.cells #[.string q.name, .string q.sort, .slice ya q.kids.length yc] 24)) (w.heap.size + 1) (.string ⟨#[]⟩) (.string ⟨#[]⟩) (.slice none 0 0)
    have e0 := cellRow hr3 0 _ rfl
    have e1 := cellRow hr3 1 _ rfl
    have e2 := cellRow hr3 2 _ rfl
    refine bodyPost_ret (v := .tuple #[.agg #[.string ⟨#[]⟩, .string ⟨#[]⟩, .slice none 0 0], .int .i64 4]) (by simp [results, Tryz.results30, go_sem, e0, e1, e2]) rfl ?_
    have hue := HE7.out.trans' hu (fun j hj e => by omega)
    first | exact ⟨.slice none 0 0, fun _ => False, rfl, TlO.nil _ _ _, fun j hj => hj.elim, hue⟩ | exact ⟨.slice none 0 0, rfl, fun _ => False, TlO.nil _ _ _, fun j hj => hj.elim, hue⟩
  have t8 : decide (r < 0) = false := decide_eq_false hr
  have hfit : z.size ≤ 1000 ∧ 1 + z.depth ≤ 61 := by
    by_cases h6 : (z.size ≤ 1000 ∧ 1 + z.depth ≤ 61)
    · exact h6
    · exact absurd (HQ.out.2 h6) hr
  obtain ⟨hqz, hrz, B6, hT6, hb6⟩ := HQ.out.1 hfit
  subst hqz
  have HT7 := Lib.hid (hT6.kept HX67.out (fun _ _ h => h))
  have HBB7 : Hid (∀ j, B6 j → w.heap.size + 2 ≤ j ∧ j < (w6.alloc (.cells #[.string q.name, .string q.sort, .slice ya q.kids.length yc] 24)).heap.size) := Lib.hid (fun j hj => ⟨Nat.le_trans HS5.out (hb6 j hj).1, Nat.lt_of_lt_of_le (hb6 j hj).2 HX67.out.size⟩)
  have HFQ := Lib.hid (fun W (hW : Ext (w6.alloc (.cells #[.string q.name, .string q.sort, .slice ya q.kids.length yc] 24)) W) => rformed_x q (tV q (.slice ya q.kids.length yc)) _ W ⟨ya, yc, rfl, HT7.out.read.ext hW⟩)
  dsimp only [tV] at HFQ
  have hAP3 : Z = (if wf nmB q = false then (.mk nul nul [], 11) else (q, 0)) := by
    rw [HAP.out, if_neg (by omega)]
  obtain ⟨b4, hb4⟩ : ∃ b, wf nmB q = b := ⟨_, rfl⟩
  rw [hb4] at HFQ hAP3
  have HAP3 := Lib.hid hAP3
  have x0 := cellRow HB7.out 0 (.string q.name) rfl
  have x1 := cellRow HB7.out 1 (.string q.sort) rfl
  have x2 := cellRow HB7.out 2 (.slice ya q.kids.length yc) rfl
  clear hfit hrz hT6 hb6 hAP3 hb4
  go_wp2_with fail
  generalize w6.alloc (.cells #[.string q.name, .string q.sort, .slice ya q.kids.length yc] 24) = w7 at *
  refine (HFQ.out _ (Upd.refl _ _)).mono ?_
  rintro e w8 ⟨rfl, hw8⟩
  have HE8 := Lib.hid (HE7.out.trans hw8)
  have H38 := Lib.hid (hw8.heap H37.out (fun h => h))
  have HB8 := Lib.hid (hw8.heap HB7.out (fun h => h))
  have HT8 := Lib.hid (HT7.out.kept hw8 (fun _ _ h => h))
  have HBB8 : Hid (∀ j, B6 j → w.heap.size + 2 ≤ j ∧ j < w8.heap.size) := Lib.hid (fun j hj => ⟨(HBB7.out j hj).1, Nat.lt_of_lt_of_le (HBB7.out j hj).2 hw8.size⟩)
  clear hw8 x0 x1 x2 HFQ
  cases b4
  · obtain rfl : Z = (.mk nul nul [], 11) := by have := HAP3.out; simpa using this
    have d0 := cellRow H38.out 0 (.string ⟨#[]⟩) rfl
    have d1 := cellRow H38.out 1 (.string ⟨#[]⟩) rfl
    have d2 := cellRow H38.out 2 (.slice none 0 0) rfl
    have f2 := fun i => frozenRow H38.out i
    go_wp2_with fail
    have hr3 := st3_heap H38.out (.string ⟨#[]⟩) (.string ⟨#[]⟩) (.slice none 0 0)
    have hu := st3_upd' w8 (w.heap.size + 1) (.string ⟨#[]⟩) (.string ⟨#[]⟩) (.slice none 0 0)
    have e0 := cellRow hr3 0 _ rfl
    have e1 := cellRow hr3 1 _ rfl
    have e2 := cellRow hr3 2 _ rfl
    refine bodyPost_ret (v := .tuple #[.agg #[.string ⟨#[]⟩, .string ⟨#[]⟩, .slice none 0 0], .int .i64 11]) (by simp [results, Tryz.results30, go_sem, e0, e1, e2]) rfl ?_
    have hue := HE8.out.trans' hu (fun j hj e => by omega)
    first | exact ⟨.slice none 0 0, fun _ => False, rfl, TlO.nil _ _ _, fun j hj => hj.elim, hue⟩ | exact ⟨.slice none 0 0, rfl, fun _ => False, TlO.nil _ _ _, fun j hj => hj.elim, hue⟩
  obtain rfl : Z = (q, 0) := by have := HAP3.out; simpa using this
  have x0 := cellRow HB8.out 0 (.string q.name) rfl
  have x1 := cellRow HB8.out 1 (.string q.sort) rfl
  have x2 := cellRow HB8.out 2 (.slice ya q.kids.length yc) rfl
  have d0 := cellRow H38.out 0 (.string ⟨#[]⟩) rfl
  have d1 := cellRow H38.out 1 (.string ⟨#[]⟩) rfl
  have d2 := cellRow H38.out 2 (.slice none 0 0) rfl
  have f2 := fun i => frozenRow H38.out i
  go_wp2_with fail
  have hr3 := st3_heap H38.out (.string q.name) (.string q.sort) (.slice ya q.kids.length yc)
  have hu := st3_upd' w8 (w.heap.size + 1) (.string q.name) (.string q.sort) (.slice ya q.kids.length yc)
  have e0 := cellRow hr3 0 _ rfl
  have e1 := cellRow hr3 1 _ rfl
  have e2 := cellRow hr3 2 _ rfl
  refine bodyPost_ret (v := .tuple #[.agg #[.string q.name, .string q.sort, .slice ya q.kids.length yc], .int .i64 0]) (by simp [results, Tryz.results30, go_sem, e0, e1, e2]) rfl ?_
  have hue := HE8.out.trans' hu (fun j hj e => by omega)
  have own := HT8.out.kept hu (fun j hj e => by have h3 := (HBB8.out j hj).1; omega)
  have rng : ∀ j, B6 j → w.heap.size ≤ j ∧ j < _ := fun j hj => ⟨by have h3 := (HBB8.out j hj).1; omega, Nat.lt_of_lt_of_le (HBB8.out j hj).2 hu.size⟩
  first | exact ⟨.slice ya q.kids.length yc, B6, rfl, own, rng, hue⟩ | exact ⟨.slice ya q.kids.length yc, rfl, B6, own, rng, hue⟩

end Go.Proofs.YtlkcjmaiahnodaaGreatDoor

/- The law UnifyApplies. -/
namespace Go.Proofs.YtlkcjmaiahnodaaGreatDoor
open Go.RowKit Go.Hw Go
set_option linter.unusedVariables false
set_option linter.unusedSimpArgs false

open Tm Go.Sort Go.Proofs Go.ChangeMaps
theorem fits_one {a : Tm} (h : (fwL [a] 60).1 = true) : a.size ≤ 60 ∧ ∀ x ∈ sbts a, x.name.size ≤ 60 ∧ x.sort.size ≤ 60 := by
  unfold fwL at h
  cases hp : fwT a 60 with
  | mk b1 j1 =>
    rw [hp] at h
    cases b1 with
    | false => cases h
    | true =>
      have h1 := fw_size a 60 (by decide) (by rw [hp])
      have g1 := fw_lt a 60 (by decide) (by rw [hp])
      rw [hp] at h1 g1
      simp only at h1 g1
      exact ⟨by omega, h1.2⟩
theorem sizB_mem {l : List Bd} {b : Bd} (h : b ∈ l) : b.2.2.size ≤ sizB l := by
  induction l with
  | nil => cases h
  | cons x l ih =>
    unfold sizB
    rcases List.mem_cons.1 h with e | h
    · rw [e]; omega
    · have := ih h; omega
theorem light_of {l : List Bd} (h : (decide (l.length ≤ 12) && (fwB l 60).1) = true) : l.length ≤ 12 ∧ ∀ b ∈ l, b.2.2.size ≤ 60 := by
  rw [Bool.and_eq_true, decide_eq_true_eq] at h
  have h2 := fwB_spec l 60 (by decide) h.2
  exact ⟨h.1, fun b hb => by have := sizB_mem hb; have := h2.1; omega⟩
set_option maxRecDepth 100000 in
set_option maxHeartbeats 2000000 in
theorem app_law (l : List Bd) (t : Tm) (v0 v1 : Value) (w : World) (hB : BnR (fun k => k < w.heap.size) (fun k => k < w.heap.size) w v0 l) (hm : l.length ≤ maxLen) (hR : TmR (fun k => k < w.heap.size) w t v1) (htab : AscT w) :
    Calls Tryz.prog 5 #[v0, v1] w fun e w' => e = .returned (.bool true) ∧ Ext w w' := by
  have HAW := Lib.hid (fun W (hW : Ext w W) => awake_x W (asc_ext htab hW))
  have hbB : ∀ W, Ext w W → BnR (fun k => k < W.heap.size) (fun k => k < W.heap.size) W v0 l := fun W hW => (hB.ext hW).weaken (fun k hk => Nat.lt_of_lt_of_le hk hW.size) (fun k hk => Nat.lt_of_lt_of_le hk hW.size)
  have hbT : ∀ W, Ext w W → TmR (fun k => k < W.heap.size) W t v1 := fun W hW => (hR.ext hW).weaken (fun k hk => Nat.lt_of_lt_of_le hk hW.size)
  have HLI := Lib.hid (fun (hl : l.length ≤ 9223372036854775807) W (hW : Ext w W) => light_x l v0 W (hbB W hW) hl)
  have HAP := Lib.hid (fun (h1 : l.length ≤ 12 ∧ ∀ b ∈ l, b.2.2.size ≤ 60) (h2 : t.size ≤ 60) W (hW : Ext w W) => uApply_x l t v0 v1 W (asc_ext htab hW) (hbB W hW) (hbT W hW) (by omega) (fun b hb => by have := h1.2 b hb; omega) (by omega))
  have HRA := Lib.hid (fun (h1 : l.length ≤ 12 ∧ ∀ b ∈ l, b.2.2.size ≤ 60) W (hW : Ext w W) => rApply_x l t v0 v1 W (hbB W hW) (hbT W hW) (by omega))
  have HVA := Lib.hid (fun (h1 : l.length ≤ 12 ∧ ∀ b ∈ l, b.2.2.size ≤ 60) W (hW : Ext w W) => valid_x l v0 W (asc_ext htab hW) (hbB W hW) (by omega) (fun b hb => by have := h1.2 b hb; omega))
  have HVR := Lib.hid (fun (h1 : l.length ≤ 12 ∧ ∀ b ∈ l, b.2.2.size ≤ 60) W (hW : Ext w W) => rvalB_x l v0 W _ (hbB W hW) (by omega))
  obtain ⟨va, vc, rfl⟩ := hB.shape
  obtain ⟨ta, tc, rfl, hT⟩ := hR
  dsimp only [tV] at HAP HRA ⊢
  have hZ := (Upd.refl (fun _ => False) w).alloc (.cells #[.string t.name, .string t.sort, .slice ta t.kids.length tc] 24)
  have HZ := Lib.hid hZ
  have HTL := Lib.hid hT
  have H2 := Lib.hid (alloc0 w (.cells #[.string t.name, .string t.sort, .slice ta t.kids.length tc] 24))
  have HM := Lib.hid hm
  clear hT htab hB hbB hbT hm hZ
  go_enter Tryz.func5, Tryz.ntmps5
  go_wp2_with fail
  generalize w.alloc (.cells #[.string t.name, .string t.sort, .slice ta t.kids.length tc] 24) = wa at *
  refine (HAW.out _ HZ.out).mono ?_
  rintro e w1 ⟨rfl, hw1⟩
  have HE1 := Lib.hid (HZ.out.trans hw1)
  have H21 := Lib.hid (hw1.heap H2.out (fun h => h))
  clear hw1 HAW HZ H2
  go_wp2_with fail
  refine (HLI.out (by have := HM.out; unfold maxLen at this; omega) _ HE1.out).mono ?_
  rintro e w2 ⟨rfl, hw2⟩
  have HE2 := Lib.hid (HE1.out.trans hw2)
  have H22 := Lib.hid (hw2.heap H21.out (fun h => h))
  clear hw2 HLI HE1 H21
  cases hb1 : (decide (l.length ≤ 12) && (fwB l 60).1) with
  | false =>
    have HEE := HE2
    clear hb1
    go_wp2_with fail
    all_goals go_ret
    all_goals exact ⟨rfl, HEE.out⟩
  | true =>
    have h12 := light_of hb1
    have H12 := Lib.hid h12
    clear hb1 h12
    have x0 := cellRow H22.out 0 (.string t.name) rfl
    have x1 := cellRow H22.out 1 (.string t.sort) rfl
    have x2 := cellRow H22.out 2 (.slice ta t.kids.length tc) rfl
    have hX3 := (Upd.refl (fun _ => False) w2).alloc (.cells #[.string t.name, .string t.sort, .slice ta t.kids.length tc] 24)
    have HX3 := Lib.hid hX3
    have HFI := Lib.hid (fits_x [t] _ (fun k => k < (w2.alloc (.cells #[.string t.name, .string t.sort, .slice ta t.kids.length tc] 24)).heap.size) _ (one_tl (alloc0 w2 (.cells #[.string t.name, .string t.sort, .slice ta t.kids.length tc] 24)) (by simp) (((HTL.out.ext HE2.out).ext hX3).weaken (fun k hk => Nat.lt_of_lt_of_le hk (Nat.le_trans HE2.out.size hX3.size)))) (fun k hk => hk))
    have H23 := Lib.hid (hX3.heap H22.out (fun h => h))
    have HE3 := Lib.hid (HE2.out.trans hX3)
    clear hX3
    go_wp2_with fail
    generalize w2.alloc (.cells #[.string t.name, .string t.sort, .slice ta t.kids.length tc] 24) = w3 at *
    refine HFI.out.mono ?_
    rintro e w4 ⟨rfl, hw4⟩
    have HE4 := Lib.hid (HE3.out.trans hw4)
    have H24 := Lib.hid (hw4.heap H23.out (fun h => h))
    clear hw4 HFI x0 x1 x2 HE3 H23 HX3 HE2 H22
    cases hb2 : (fwL [t] 60).1 with
    | false =>
      have HEE := HE4
      clear hb2
      go_wp2_with fail
      all_goals go_ret
      all_goals exact ⟨rfl, HEE.out⟩
    | true =>
      have hf := fits_one hb2
      have HAP2 := Lib.hid (HAP.out H12.out hf.1 _ HE4.out)
      have HRA2 := Lib.hid (HRA.out H12.out)
      have HVA2 := Lib.hid (HVA.out H12.out)
      have HVR2 := Lib.hid (HVR.out H12.out)
      have HZS : Hid ((appF nmB l t).1.size ≤ 1000000) := Lib.hid (by
        unfold appF
        split
        · unfold app1
          split
          · show 1 ≤ _; decide
          · split
            · show 1 ≤ _; decide
            · split
              · show 1 ≤ _; decide
              · rename_i h _; simp only; omega
        · show 1 ≤ _; decide)
      obtain ⟨Z, hZ⟩ : ∃ Z, appF nmB l t = Z := ⟨_, rfl⟩
      rw [hZ] at HAP2 HRA2 HZS
      obtain ⟨VB, hVB⟩ : ∃ b, vldB nmB l = b := ⟨_, rfl⟩
      rw [hVB] at HVA2 HVR2
      have x0 := cellRow H24.out 0 (.string t.name) rfl
      have x1 := cellRow H24.out 1 (.string t.sort) rfl
      have x2 := cellRow H24.out 2 (.slice ta t.kids.length tc) rfl
      clear hb2 hf HAP HRA HVA HVR hZ hVB
      go_wp2_with fail
      refine HAP2.out.mono ?_
      rintro e w5 ⟨r5, B5, rfl, hT5, hb5, hw5⟩
      obtain ⟨xa, xc, hry⟩ := TlO.shape hT5
      subst hry
      have hX6 := hw5.alloc (.cells #[.string Z.1.name, .string Z.1.sort, .slice xa Z.1.kids.length xc] 24)
      have HX6 := Lib.hid (HE4.out.trans hX6)
      have H26 := Lib.hid (hX6.heap H24.out (fun h => h))
      have HQ6 := Lib.hid (alloc0 w5 (.cells #[.string Z.1.name, .string Z.1.sort, .slice xa Z.1.kids.length xc] 24))
      have HTX6 := Lib.hid (hT5.read.ext ((Upd.refl (fun _ => False) w5).alloc (.cells #[.string Z.1.name, .string Z.1.sort, .slice xa Z.1.kids.length xc] 24)))
      dsimp only [tV]
      clear hT5 hb5 hw5 hX6 HAP2 x0 x1 x2 HE4 H24
      have x0 := cellRow H26.out 0 (.string t.name) rfl
      have x1 := cellRow H26.out 1 (.string t.sort) rfl
      have x2 := cellRow H26.out 2 (.slice ta t.kids.length tc) rfl
      have HRA3 := Lib.hid (HRA2.out _ HX6.out)
      go_wp2_with fail
      generalize w5.alloc (.cells #[.string Z.1.name, .string Z.1.sort, .slice xa Z.1.kids.length xc] 24) = w6 at *
      refine HRA3.out.mono ?_
      rintro e w7 ⟨r7, B7, rfl, hT7, hb7, hw7⟩
      obtain ⟨ya, yc, hry⟩ := TlO.shape hT7
      subst hry
      have hX8 := hw7.alloc (.cells #[.string Z.1.name, .string Z.1.sort, .slice ya Z.1.kids.length yc] 24)
      have HE8 := Lib.hid (HX6.out.trans hX8)
      have HQ8 := Lib.hid (hX8.heap HQ6.out (fun h => h))
      have HR8 := Lib.hid (alloc0 w7 (.cells #[.string Z.1.name, .string Z.1.sort, .slice ya Z.1.kids.length yc] 24))
      have HTX8 := Lib.hid (HTX6.out.ext hX8)
      have HTY8 := Lib.hid (hT7.read.ext ((Upd.refl (fun _ => False) w7).alloc (.cells #[.string Z.1.name, .string Z.1.sort, .slice ya Z.1.kids.length yc] 24)))
      have HSM := Lib.hid (same_x Z.1 Z.1 _ _ _ _ (w7.alloc (.cells #[.string Z.1.name, .string Z.1.sort, .slice ya Z.1.kids.length yc] 24)) ⟨xa, xc, rfl, HTX8.out⟩ ⟨ya, yc, rfl, HTY8.out⟩ HZS.out)
      dsimp only [tV] at HSM ⊢
      rw [decide_eq_true (rfl : Z.1 = Z.1)] at HSM
      clear hT7 hb7 hw7 hX8 HRA2 HRA3 x0 x1 x2 HX6 H26 HQ6 HTX6
      have x0 := cellRow HQ8.out 0 (.string Z.1.name) rfl
      have x1 := cellRow HQ8.out 1 (.string Z.1.sort) rfl
      have x2 := cellRow HQ8.out 2 (.slice xa Z.1.kids.length xc) rfl
      have y0 := cellRow HR8.out 0 (.string Z.1.name) rfl
      have y1 := cellRow HR8.out 1 (.string Z.1.sort) rfl
      have y2 := cellRow HR8.out 2 (.slice ya Z.1.kids.length yc) rfl
      go_wp2_with fail
      generalize w7.alloc (.cells #[.string Z.1.name, .string Z.1.sort, .slice ya Z.1.kids.length yc] 24) = w8 at *
      refine HSM.out.mono ?_
      rintro e w9 ⟨rfl, hw9⟩
      have HE9 := Lib.hid (HE8.out.trans hw9)
      clear hw9 HSM x0 x1 x2 y0 y1 y2
      go_wp2_with fail
      refine (HVA2.out _ HE9.out).mono ?_
      rintro e w10 ⟨rfl, hw10⟩
      have HE10 := Lib.hid (HE9.out.trans hw10)
      clear hw10 HVA2
      go_wp2_with fail
      refine (HVR2.out _ HE10.out).mono ?_
      rintro e w11 ⟨rfl, hw11⟩
      have HEE := Lib.hid (HE10.out.trans hw11)
      clear hw11 HVR2
      cases VB
      · go_wp2_with fail
        all_goals go_ret
        all_goals exact ⟨rfl, HEE.out⟩
      · go_wp2_with fail
        all_goals go_ret
        all_goals exact ⟨rfl, HEE.out⟩

end Go.Proofs.YtlkcjmaiahnodaaGreatDoor
