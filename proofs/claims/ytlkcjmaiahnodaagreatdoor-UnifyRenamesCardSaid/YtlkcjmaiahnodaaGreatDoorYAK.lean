/- The texts I93 I39 I18 I19 I40 I41 I42 I94 I71 I72 I73 N8 I43, one behind the other. -/
import Derived.Test.YtlkcjmaiahnodaaGreatDoorYAJ
import Derived.Test.YtlkcjmaiahnodaaGreatDoorYAC
import Derived.Test.YtlkcjmaiahnodaaGreatDoorYAH
import Derived.Deep.DeepCutAuto
/- fill of the rewrite package. -/
namespace Go.Proofs.YtlkcjmaiahnodaaGreatDoor
open Go.RowKit Go.Hw Go
set_option linter.unusedVariables false
set_option linter.unusedSimpArgs false

open Tm
theorem tg_fil (σ : Sb) (L : List Tm) (k : Nat) (h : k < L.length) : tg (L.map (filT σ)) k = filT σ (tg L k) := by
  unfold tg
  rw [List.getD_eq_getElem?_getD, List.getD_eq_getElem?_getD, List.getElem?_map, List.getElem?_eq_getElem h]
  rfl
set_option maxRecDepth 100000 in
set_option maxHeartbeats 2000000 in
theorem fill_x : ∀ (t : Tm) (v : Value) (S T : Nat → Prop) (σ : Sb) (b : Nat) (w : World), TmR S w t v → BdR T w b σ → (∀ k, S k → k < w.heap.size) → (∀ k, T k → k < w.heap.size) → t.size ≤ 100000 →
    Calls Tryz.prog 174 #[v, .map (some b)] w fun e w' => ∃ r B, e = .returned (tV (filT σ t) r) ∧ TlO 24 w' B (filT σ t).kids r ∧ (∀ j, B j → w.heap.size ≤ j ∧ j < w'.heap.size) ∧ Ext w w' := by
  refine Tm.ind (fun nm so L ih => ?_)
  intro v S T σ b w hT hB hS hS2 hsz
  obtain ⟨a, cap, rfl, hT⟩ := hT
  dsimp only [Tm.name, Tm.sort, Tm.kids] at hT
  change Calls Tryz.prog 174 #[.agg #[.string nm, .string so, .slice a L.length cap], .map (some b)] w (fun e w' => ∃ r B, e = .returned (tV (filT σ (.mk nm so L)) r) ∧ TlO 24 w' B (filT σ (.mk nm so L)).kids r ∧ (∀ j, B j → w.heap.size ≤ j ∧ j < w'.heap.size) ∧ Ext w w')
  have HTL := Lib.hid hT
  have HIH := Lib.hid ih
  have HBD := Lib.hid hB
  have HST := Lib.hid (And.intro hS hS2)
  have hszL : sizes L + 1 ≤ 100000 := by rw [size_eq] at hsz; simp only [Tm.kids] at hsz; omega
  have HSL := Lib.hid hszL
  have hlL : L.length ≤ 100000 := by have h1 := length_le_sizes L; omega
  clear ih hT hB hS hS2 hsz hszL
  by_cases hs0 : so.size = 0
  · have hse := empty_is _ hs0
    subst hse
    have HFO : Hid (filT σ (.mk nm ⟨#[]⟩ L) = .mk nm ⟨#[]⟩ (L.map (filT σ))) := Lib.hid (filT_op σ nm L)
    rw [HFO.out]
    dsimp only [tV, Tm.name, Tm.sort, Tm.kids]
    obtain ⟨LM, hLM⟩ : ∃ LM, L.map (filT σ) = LM := ⟨_, rfl⟩
    have HLM : Hid (L.map (filT σ) = LM ∧ LM.length = L.length) := Lib.hid ⟨hLM, by rw [← hLM, List.length_map]⟩
    rw [hLM]
    have hx3 := (((Upd.refl (fun _ => False) w).alloc (.cells #[.string nm, .string ⟨#[]⟩, .slice a L.length cap] 24)).alloc (.cells #[.string ⟨#[]⟩, .string ⟨#[]⟩, .slice none 0 0] 24)).alloc (.cells #[.string nm, .string ⟨#[]⟩, .slice none 0 0] 24)
    have hb1 := allocOld (alloc0 w (.cells #[.string nm, .string ⟨#[]⟩, .slice a L.length cap] 24)) (.cells #[.string ⟨#[]⟩, .string ⟨#[]⟩, .slice none 0 0] 24)
    have p0 := cellRow hb1 0 (.string nm) rfl
    have p1 := cellRow hb1 1 (.string ⟨#[]⟩) rfl
    have p2 := cellRow (allocOld hb1 (.cells #[.string nm, .string ⟨#[]⟩, .slice none 0 0] 24)) 2 (.slice a L.length cap) rfl
    have hb2 := allocOld (alloc_at (w.alloc (.cells #[.string nm, .string ⟨#[]⟩, .slice a L.length cap] 24)) (.cells #[.string ⟨#[]⟩, .string ⟨#[]⟩, .slice none 0 0] 24) (n := w.heap.size + 1) (by simp)) (.cells #[.string nm, .string ⟨#[]⟩, .slice none 0 0] 24)
    have hb3 := alloc_at ((w.alloc (.cells #[.string nm, .string ⟨#[]⟩, .slice a L.length cap] 24)).alloc (.cells #[.string ⟨#[]⟩, .string ⟨#[]⟩, .slice none 0 0] 24)) (.cells #[.string nm, .string ⟨#[]⟩, .slice none 0 0] 24) (n := w.heap.size + 1 + 1) (by simp)
    have hz0 : (((w.alloc (.cells #[.string nm, .string ⟨#[]⟩, .slice a L.length cap] 24)).alloc (.cells #[.string ⟨#[]⟩, .string ⟨#[]⟩, .slice none 0 0] 24)).alloc (.cells #[.string nm, .string ⟨#[]⟩, .slice none 0 0] 24)).heap.size = w.heap.size + 3 := by simp
    have HB2 := Lib.hid hb2
    have HB3 := Lib.hid hb3
    have HE0 := Lib.hid hx3
    have HZ0 := Lib.hid hz0
    clear hb1 hb2 hb3 hx3 hz0 hLM hs0 HFO
    go_enter Tryz.func174, Tryz.ntmps174
    go_wp2_with fail
    clear p0 p1 p2
    generalize (((w.alloc (.cells #[.string nm, .string ⟨#[]⟩, .slice a L.length cap] 24)).alloc (.cells #[.string ⟨#[]⟩, .string ⟨#[]⟩, .slice none 0 0] 24)).alloc (.cells #[.string nm, .string ⟨#[]⟩, .slice none 0 0] 24)) = W0 at *
    obtain ⟨n3, hn3⟩ : ∃ n3, w.heap.size + 1 + 1 = n3 := ⟨_, rfl⟩
    rw [hn3] at HB3 ⊢
    have HN3 := Lib.hid hn3
    clear hn3
    have HJ0 : Hid (CpJ 24 (w.heap.size + 3) W0 LM (.slice none 0 0) [] (fun _ _ => False) 0) := Lib.hid ⟨rfl, ⟨rfl, .inl ⟨rfl, rfl⟩⟩, fun i hi => absurd hi (Nat.not_lt_zero _), fun i j hi => absurd hi (Nat.not_lt_zero _), fun i i' j hi => absurd hi (Nat.not_lt_zero _)⟩
    have HSW0 : Hid (w.heap.size + 3 ≤ W0.heap.size) := Lib.hid (by rw [HZ0.out]; exact Nat.le_refl _)
    clear HZ0
    go_loopg [22] L.length (fun gk iv wr => ∃ (k : Nat) (lv : Value) (us : List Value) (Bk : Nat → Nat → Prop), iv = .int .i64 (k : Int) ∧ gk = L.length - k ∧ k ≤ L.length ∧ Hid (CpJ 24 (w.heap.size + 3) wr LM lv us Bk k) ∧ Hid (wr.heap[w.heap.size + 1]? = some (.cells #[.string ⟨#[]⟩, .string ⟨#[]⟩, .slice none 0 0] 24 (0, 0))) ∧ Hid (wr.heap[n3]? = some (.cells #[.string nm, .string ⟨#[]⟩, lv] 24 (0, 0))) ∧ Hid (Ext w wr) ∧ Hid (w.heap.size + 3 ≤ wr.heap.size))
    case atStart => exact ⟨0, _, _, _, rfl, rfl, Nat.zero_le _, HJ0, HB2, HB3, HE0, HSW0⟩
    case round =>
      clear HJ0 HB2 HB3 HE0 HSW0
      obtain ⟨k, lv, us, Bk, rfl, rfl, hk, HJ, HB2, HB3, HE, HSZ⟩ := hrel
      obtain ⟨la, lc, hlv⟩ := own_shape HJ.out.own
      subst hlv
      by_cases hlt : k < L.length
      · obtain ⟨g, off, hga, _, hat⟩ := (HTL.out.ext HE.out).at_ (by omega)
        subst hga
        obtain ⟨xa, xc, q0, q1, q2, hkid⟩ := hat k hlt
        rw [← Nat.add_assoc] at q1 q2
        have z0 : (0 : Int) ≤ (k : Int) := by omega
        have z1 : (k : Int) < (L.length : Int) := by omega
        have z2 : decide ((k : Int) < (L.length : Int)) = true := decide_eq_true z1
        have z2' : decide (k < L.length) = true := decide_eq_true hlt
        have HIX := Lib.hid (fun W (hW : Ext (wr.alloc (.cells #[.string (tg L k).name, .string (tg L k).sort, .slice xa (tg L k).kids.length xc] 24)) W) => HIH.out (tg L k) (tg_mem L k hlt) _ S T σ b W ⟨xa, xc, rfl, (hkid.ext ((Upd.refl (fun _ => False) wr).alloc _)).ext hW⟩ ((HBD.out.ext HE.out).ext (((Upd.refl (fun _ => False) wr).alloc (.cells #[.string (tg L k).name, .string (tg L k).sort, .slice xa (tg L k).kids.length xc] 24)).trans hW)) (fun j hj => Nat.lt_of_lt_of_le (HST.out.1 j hj) (Nat.le_trans HE.out.size (Nat.le_trans ((Upd.refl (fun _ => False) wr).alloc (.cells #[.string (tg L k).name, .string (tg L k).sort, .slice xa (tg L k).kids.length xc] 24)).size hW.size))) (fun j hj => Nat.lt_of_lt_of_le (HST.out.2 j hj) (Nat.le_trans HE.out.size (Nat.le_trans ((Upd.refl (fun _ => False) wr).alloc (.cells #[.string (tg L k).name, .string (tg L k).sort, .slice xa (tg L k).kids.length xc] 24)).size hW.size))) (by have h1 := HSL.out; have h2 := sizes_take L k hlt; have h3 := sizes_take_le L (k + 1); omega))
        have HX0 := Lib.hid (tg_fil σ L k hlt)
        dsimp only [tV] at HIX
        obtain ⟨x, hx⟩ : ∃ x, tg L k = x := ⟨_, rfl⟩
        rw [hx] at q0 q1 q2 HIX HX0
        obtain ⟨y, hy⟩ : ∃ y, filT σ x = y := ⟨_, rfl⟩
        rw [hy] at HIX HX0
        have HX : Hid (tg LM k = y) := Lib.hid (by rw [← HLM.out.1]; exact HX0.out)
        clear hy HX0
        have hQ := (Upd.refl (fun _ => False) wr).alloc (.cells #[.string x.name, .string x.sort, .slice xa x.kids.length xc] 24)
        have hB5 := alloc0 wr (.cells #[.string x.name, .string x.sort, .slice xa x.kids.length xc] 24)
        have b0 := cellRow hB5 0 (.string x.name) rfl
        have b1 := cellRow hB5 1 (.string x.sort) rfl
        have b2 := cellRow hB5 2 (.slice xa x.kids.length xc) rfl
        have hB3q := allocOld HB3.out (.cells #[.string x.name, .string x.sort, .slice xa x.kids.length xc] 24)
        have c2 := cellRow hB3q 2 (.slice la k lc) rfl
        have HBQ := Lib.hid hB3q
        have HQ := Lib.hid hQ
        have HB2Q := Lib.hid (allocOld HB2.out (.cells #[.string x.name, .string x.sort, .slice xa x.kids.length xc] 24))
        have HOQ := Lib.hid (HJ.out.own.alloc (.cells #[.string x.name, .string x.sort, .slice xa x.kids.length xc] 24))
        have HRN : Hid (¬ (Value.slice la k lc).ownBlock = some n3) := Lib.hid (fun e => by have h1 := (HJ.out.own.lt n3 e).1; have := HN3.out; omega)
        have HK : Hid (k ≤ 100000) := Lib.hid (by omega)
        obtain ⟨iT, hi, hz0, hz1, hz2⟩ := info_parts infoT
        clear hat hkid hx hQ hB5 hB3q
        go_wp2_with fail
        generalize wr.alloc (.cells #[.string x.name, .string x.sort, .slice xa x.kids.length xc] 24) = wq at *
        have HWQ : Hid (Ext wq wq) := Lib.hid (Upd.refl _ _)
        have HSQ : Hid (w.heap.size + 3 ≤ wq.heap.size) := Lib.hid (Nat.le_trans HSZ.out HQ.out.size)
        clear q0 q1 q2
        go_region_law (first
    | (refine step_append_at _ (.tmp 27) (.tmp 31) 22 rfl (w.heap.size + 3) 24 iT (.agg #[.string ⟨#[]⟩, .string ⟨#[]⟩, .slice none 0 0]) 3 56 Tryz.underlying22 hi hz0 hz1 hz2 rfl (by decide) _ _ _ rfl HOW5.out _ 1 1 [.string y.name, .string y.sort, .slice ya y.kids.length yc] rfl rfl HNEW.out HONE.out HLMX.out.1 HLMX.out.2.1 HLMX.out.2.2 ?_; intro v7 w7 hG7; obtain ⟨a7, c7, hv7⟩ := own_shape hG7.own; subst hv7; have hB7 := hG7.upd.heap (allocOld HB5.out (.cells #[.string y.name, .string y.sort, .slice ya y.kids.length yc] 24)) HRN.out; have f7 := fun i => frozenRow hB7 i; have c2 := cellRow hB7 2 (.slice la k lc) rfl; have HB7 := Lib.hid hB7; have HG7 := Lib.hid hG7; clear hG7 hB7)
    | (go_simp; refine (HIX.out wq.drew HWQ.out.drew).mono ?_; rintro e w5 ⟨r, Bx, rfl, hT5, hb5, hw5⟩; obtain ⟨ya, yc, hry⟩ := TlO.shape hT5; subst hry; have HW5 : Hid (Ext wq w5) := Lib.hid (((Upd.refl (fun _ => False) wq).drewN' 1).trans hw5); have HT5 := Lib.hid hT5; have HBX5 : Hid (∀ j, Bx j → wq.heap.size ≤ j ∧ j < w5.heap.size) := Lib.hid hb5; have HB5 := Lib.hid (HW5.out.heap HBQ.out (fun h => h)); have HOW5 : Hid ((w5.alloc (.cells #[.string y.name, .string y.sort, .slice ya y.kids.length yc] 24)).ownsRow (w.heap.size + 3) 24 3 (.slice la k lc) k (tCells (LM.take k) us)) := Lib.hid ((own_kept HOQ.out HW5.out (fun _ _ h => h)).alloc _); have HNEW : Hid (∀ (j : Nat) (u : Value), [Value.string y.name, .string y.sort, .slice ya y.kids.length yc][j]? = some u → (w5.alloc (.cells #[.string y.name, .string y.sort, .slice ya y.kids.length yc] 24)).cell? ((⟨w5.heap.size, 0, none⟩ : Addr).add j) = some u) := Lib.hid (new3 w5 _ _ _ 24); have HONE : Hid (∀ u ∈ [Value.string y.name, .string y.sort, .slice ya y.kids.length yc], u.oneCell' = true) := Lib.hid (fun u hu => by simp at hu; rcases hu with h | h | h <;> (subst h; rfl)); have HLMX : Hid (k + 1 ≤ maxLen ∧ (k + 1) * 56 ≤ 140737488355328 ∧ w.heap.size + 3 ≤ (w5.alloc (.cells #[.string y.name, .string y.sort, .slice ya y.kids.length yc] 24)).heap.size) := Lib.hid ⟨by unfold maxLen; have := HK.out; omega, by have := HK.out; omega, by have h1 := HW5.out.size; have h2 := HSQ.out; simp; omega⟩; have c5 := HW5.out.cell c2 (fun h => h); have c6 := ((Upd.refl (fun _ => False) w5).alloc (.cells #[.string y.name, .string y.sort, .slice ya y.kids.length yc] 24)).cell c5 (fun h => h); clear hT5 hb5 hw5))
        all_goals
          go_wp2_with fail
          have HS8 := Lib.hid ((Upd.refl (fun j => j = n3) w7).setCell (p := ⟨n3, 2, none⟩) (.inl rfl) (.slice a7 (k + 1) c7))
          have HU8 : Hid (Upd (fun j => (Value.slice la k lc).ownBlock = some j ∨ j = n3) wq (w7.setCell ⟨n3, 2, none⟩ (.slice a7 (k + 1) c7))) := Lib.hid (((((HW5.out.alloc (.cells #[.string y.name, .string y.sort, .slice ya y.kids.length yc] 24)).mono (fun _ _ x => x.elim)).trans (HG7.out.upd.mono (fun _ _ e => .inl e)))).trans (HS8.out.mono (fun _ _ e => .inr e)))
          have HJ8 := Lib.hid (HJ.out.grow (by rw [HLM.out.2]; exact hlt) HX.out (by have := HN3.out; omega) HSZ.out HQ.out HW5.out HT5.out HBX5.out ((Upd.refl (fun _ => False) w5).alloc (.cells #[.string y.name, .string y.sort, .slice ya y.kids.length yc] 24)) HG7.out HS8.out)
          have HE8 : Hid (Ext w (w7.setCell ⟨n3, 2, none⟩ (.slice a7 (k + 1) c7))) := Lib.hid ((HE.out.trans HQ.out).trans' HU8.out (fun j hj e => by
            rcases e with e | e
            · have h1 := (HJ.out.own.lt j e).1; omega
            · have := HN3.out; omega))
          have HB28 := Lib.hid (HU8.out.heap HB2Q.out (fun e => by
            rcases e with e | e
            · have h1 := (HJ.out.own.lt _ e).1; omega
            · have := HN3.out; omega))
          have hb38 := setBlock HB7.out 2 (.slice a7 (k + 1) c7)
          have HB38 : Hid ((w7.setCell ⟨n3, 2, none⟩ (.slice a7 (k + 1) c7)).heap[n3]? = some (.cells #[.string nm, .string ⟨#[]⟩, .slice a7 (k + 1) c7] 24 (0, 0))) := Lib.hid (by simpa using hb38)
          have HS9 : Hid (w.heap.size + 3 ≤ (w7.setCell ⟨n3, 2, none⟩ (.slice a7 (k + 1) c7)).heap.size) := Lib.hid (Nat.le_trans HSQ.out HU8.out.size)
          clear hb38 c2 f7
          go_roundg (L.length - (k + 1))
          case measure => omega
          case rel => exact ⟨k + 1, _, _, _, by go_num, rfl, by omega, HJ8, HB28, HB38, HE8, HS9⟩
      · obtain rfl : k = L.length := by omega
        have z2 : decide ((L.length : Int) < (L.length : Int)) = false := decide_eq_false (by omega)
        have c0 := cellRow HB3.out 0 (.string nm) rfl
        have c1 := cellRow HB3.out 1 (.string ⟨#[]⟩) rfl
        have c2 := cellRow HB3.out 2 (.slice la L.length lc) rfl
        have f2 := fun i => frozenRow HB2.out i
        have d0 := cellRow HB2.out 0 (.string ⟨#[]⟩) rfl
        have d1 := cellRow HB2.out 1 (.string ⟨#[]⟩) rfl
        have d2 := cellRow HB2.out 2 (.slice none 0 0) rfl
        go_wp2_with fail
        have hr := st3_heap HB2.out (.string nm) (.string ⟨#[]⟩) (.slice la L.length lc)
        have hu := st3_upd' wr (w.heap.size + 1) (.string nm) (.string ⟨#[]⟩) (.slice la L.length lc)
        have e0 := cellRow hr 0 _ rfl
        have e1 := cellRow hr 1 _ rfl
        have e2 := cellRow hr 2 _ rfl
        refine bodyPost_ret (v := .agg #[.string nm, .string ⟨#[]⟩, .slice la L.length lc]) (by simp [results, Tryz.results172, go_sem, e0, e1, e2]) rfl ⟨.slice la L.length lc, _, rfl, (show CpJ 24 (w.heap.size + 3) wr LM _ us Bk LM.length by rw [HLM.out.2]; exact HJ.out).fin.kept hu (fun j hj e => by have h1 := hj.1; omega), fun j hj => ⟨by have h1 := hj.1; omega, Nat.lt_of_lt_of_le hj.2 hu.size⟩, HE.out.trans' hu (fun j hj e => by omega)⟩
  · obtain ⟨s1, s2, s3, s4⟩ := nonempty_t so (by omega)
    have HSN : Hid (so ≠ nul) := Lib.hid (fun e => hs0 (by rw [e]; rfl))
    obtain ⟨l, hm, hn, hsm⟩ := HBD.out
    have hl := MpR.get (P := Tryz.prog) (t := 208) (strKey Tryz.underlying9) Tryz.underlying208 (z := (.agg #[.string ⟨#[]⟩, .string ⟨#[]⟩, .slice none 0 0])) (Tryz.zeroValue24 ((w.alloc (.cells #[.string nm, .string so, .slice a L.length cap] 24)).alloc (.cells #[.string ⟨#[]⟩, .string ⟨#[]⟩, .slice none 0 0] 24))) (hm.ext (((Upd.refl (fun _ => False) w).alloc (.cells #[.string nm, .string so, .slice a L.length cap] 24)).alloc (.cells #[.string ⟨#[]⟩, .string ⟨#[]⟩, .slice none 0 0] 24))) nm false
    simp only [Bool.false_eq_true, if_false] at hl
    obtain ⟨x, hx⟩ : ∃ x, (σ nm).getD default = x := ⟨_, rfl⟩
    have hfx : ∃ xv, (afind l nm).getD (.agg #[.string ⟨#[]⟩, .string ⟨#[]⟩, .slice none 0 0]) = xv ∧ TmR T w x xv ∧ x.size ≤ 100000 := by
      cases h : σ nm with
      | none =>
        rw [h] at hx
        rw [hn nm h, ← hx]
        exact ⟨_, rfl, ⟨none, 0, rfl, ((TlO.nil 25 w (fun _ => False)).read).weaken (fun _ h => h.elim)⟩, by decide⟩
      | some y =>
        rw [h] at hx
        obtain ⟨v', g1, g2, g3⟩ := hsm nm y h
        rw [g1, ← hx]
        exact ⟨v', rfl, g2, g3⟩
    obtain ⟨xv, e1, hxT, hxs⟩ := hfx
    rw [e1] at hl
    have HC := Lib.hid (fun W (hW : Ext w W) => rcopied_x x xv T W (hxT.ext hW) (fun k hk => Nat.lt_of_lt_of_le (HST.out.2 k hk) hW.size) hxs)
    obtain ⟨xa, xc, rfl, _⟩ := hxT
    dsimp only [tV] at HC hl
    rw [filT_var σ HSN.out, hx]
    dsimp only [tV]
    have HZ := Lib.hid (((Upd.refl (fun _ => False) w).alloc (.cells #[.string nm, .string so, .slice a L.length cap] 24)).alloc (.cells #[.string ⟨#[]⟩, .string ⟨#[]⟩, .slice none 0 0] 24))
    have hb1 := allocOld (alloc0 w (.cells #[.string nm, .string so, .slice a L.length cap] 24)) (.cells #[.string ⟨#[]⟩, .string ⟨#[]⟩, .slice none 0 0] 24)
    have hb2 := alloc_at (w.alloc (.cells #[.string nm, .string so, .slice a L.length cap] 24)) (.cells #[.string ⟨#[]⟩, .string ⟨#[]⟩, .slice none 0 0] 24) (n := w.heap.size + 1) (by simp)
    have p0 := cellRow hb1 0 (.string nm) rfl
    have p1 := cellRow hb1 1 (.string so) rfl
    have HB2 := Lib.hid hb2
    clear hb1 hb2 hm hn hsm hx e1 hxs HIH HBD HTL hs0
    go_enter Tryz.func174, Tryz.ntmps174
    go_wp2_with fail
    refine (HC.out _ HZ.out).mono ?_
    rintro e w5 ⟨r, B, rfl, hT5, hb5, hw5⟩
    obtain ⟨ya, yc, hry⟩ := TlO.shape hT5
    subst hry
    have HW5 := Lib.hid (HZ.out.trans hw5)
    have HT5 := Lib.hid hT5
    have HBX5 : Hid (∀ j, B j → w.heap.size + 2 ≤ j ∧ j < w5.heap.size) := Lib.hid (fun j hj => by have h1 := hb5 j hj; simp at h1; omega)
    have HB5 := Lib.hid (hw5.heap HB2.out (fun h => h))
    have f5 := fun i => frozenRow HB5.out i
    clear hT5 hb5 hw5 hl p0 p1 HC HB2
    have d0 := cellRow HB5.out 0 (.string ⟨#[]⟩) rfl
    have d1 := cellRow HB5.out 1 (.string ⟨#[]⟩) rfl
    have d2 := cellRow HB5.out 2 (.slice none 0 0) rfl
    go_wp2_with fail
    have hr := st3_heap HB5.out (.string x.name) (.string x.sort) (.slice ya x.kids.length yc)
    have hu := st3_upd' w5 (w.heap.size + 1) (.string x.name) (.string x.sort) (.slice ya x.kids.length yc)
    have e0 := cellRow hr 0 _ rfl
    have e1 := cellRow hr 1 _ rfl
    have e2 := cellRow hr 2 _ rfl
    refine bodyPost_ret (v := .agg #[.string x.name, .string x.sort, .slice ya x.kids.length yc]) (by simp [results, Tryz.results174, go_sem, e0, e1, e2]) rfl ⟨.slice ya x.kids.length yc, _, rfl, HT5.out.kept hu (fun j hj e => by have h1 := HBX5.out j hj; omega), fun j hj => ⟨by have h1 := HBX5.out j hj; omega, Nat.lt_of_lt_of_le (HBX5.out j hj).2 hu.size⟩, HW5.out.trans' hu (fun j hj e => by omega)⟩

end Go.Proofs.YtlkcjmaiahnodaaGreatDoor

/- knows. -/
namespace Go.Proofs.YtlkcjmaiahnodaaGreatDoor
open Go.RowKit Go.Hw Go
set_option linter.unusedVariables false
set_option linter.unusedSimpArgs false

open Tm
theorem knows_mem (ops : List By) (t : Tm) : (∀ s ∈ sFoldO [] (opN t), s ∈ ops) ↔ knowsP ops t = true := by
  rw [knowsP_iff]
  constructor
  · intro h s hs
    exact h s (mem_sFoldO.2 (.inr hs))
  · intro h s hs
    rcases mem_sFoldO.1 hs with h1 | h1
    · cases h1
    · exact h s h1
end Go.Proofs.YtlkcjmaiahnodaaGreatDoor

/- Above of the reference: the table. -/
namespace Go.Proofs.YtlkcjmaiahnodaaGreatDoor
open Go.RowKit Go.Hw Go
set_option linter.unusedVariables false
set_option linter.unusedSimpArgs false

open Tm
theorem made_list (z : Value) (c : Nat) : madeCells #[z] c = (List.replicate c z).toArray := by
  apply Array.ext
  · simp [size_madeCells]
  · intro i h1 h2
    have := made_get z c i (by rw [size_madeCells] at h1; exact h1)
    rw [Array.getElem?_eq_getElem h1] at this
    simp at this ⊢
    exact this
section
variable {n0 m : Nat} {r : By → Nat} {X Y : List Nt} {w6 wr wq wb w8 : World} {tv tv' : Value} {i j g : Nat} {us : List Value} {tab : List (List Bool)} {Q : Nat → Prop} {row : List Bool}
end
theorem infoB : (Tryz.prog.info? 4).map (fun i => (i.zero, i.size, i.bytes)) = some (some (.bool false), 1, 1) := by kernel_rfl
theorem sub_ok {t a : Tm} (h : t ∈ sbts a) : t.size ≤ a.size ∧ (∀ x ∈ sbts t, x ∈ sbts a) := by
  have key : ∀ a : Tm, ∀ t ∈ sbts a, t.size ≤ a.size ∧ ∀ x ∈ sbts t, x ∈ sbts a := by
    refine Tm.ind (fun n s L ih => ?_)
    intro t ht
    rw [sbts_eq] at ht
    rcases List.mem_cons.1 ht with h | h
    · rw [h]; exact ⟨Nat.le_refl _, fun x hx => hx⟩
    · obtain ⟨k, hk, hk2⟩ := List.mem_flatMap.1 h
      obtain ⟨h1, h2⟩ := ih k hk t hk2
      have := size_kid (t := .mk n s L) hk
      exact ⟨by omega, fun x hx => by rw [sbts_eq]; exact List.mem_cons_of_mem _ (List.mem_flatMap.2 ⟨k, hk, h2 x hx⟩)⟩
  exact key a t h
end Go.Proofs.YtlkcjmaiahnodaaGreatDoor

/- Greater of the reference. -/
namespace Go.Proofs.YtlkcjmaiahnodaaGreatDoor
open Go.RowKit Go.Hw Go
set_option linter.unusedVariables false
set_option linter.unusedSimpArgs false

open Tm
/-- what Greater answers -/
def grF (ops : List By) (a b : Tm) : Bool × Int :=
  if precP nmB ops = false ∨ wf nmB a = false ∨ wf nmB b = false then (false, 1) else if knowsP ops a = false ∨ knowsP ops b = false then (false, 9) else (gt (ixF ops) a b, 0)
theorem wf_size {t : Tm} (h : wf nmB t = true) : t.size ≤ 1000 := (formed_nd (wf_formed h)).1
theorem wf_nop {t : Tm} (h : wf nmB t = true) : NoP t := formed_VL (wf_formed h)
end Go.Proofs.YtlkcjmaiahnodaaGreatDoor

/- Greater of the program. -/
namespace Go.Proofs.YtlkcjmaiahnodaaGreatDoor
open Go.RowKit Go.Hw Go
set_option linter.unusedVariables false
set_option linter.unusedSimpArgs false

open Tm
theorem nm_ok {s : By} (h : nmB s = true) : NoCS s ∧ s.size ≤ 40 := by
  unfold nmB at h
  rw [Bool.and_eq_true, Bool.and_eq_true, Bool.and_eq_true, decide_eq_true_eq, List.all_eq_true] at h
  refine ⟨⟨fun hm => ?_, fun hm => ?_⟩, h.1.2⟩
  · have := h.2.2.1 _ hm; revert this; decide
  · have := h.2.2.1 _ hm; revert this; decide
theorem wf_ok {ops : List By} {t : Tm} (h : wf nmB t = true) (hk : knowsP ops t = true) : ∀ x ∈ sbts t, OkN ops x := by
  intro x hx
  obtain ⟨h1, h2, h3⟩ := (formed_nd (wf_formed h)).2 x hx
  have h4 := nm_ok h1
  refine ⟨h4.1, ?_, fun hs => knowsP_iff.1 hk _ (mem_opN.2 ⟨x, hx, hs, rfl⟩), by omega, ?_⟩
  · rcases h3 with e | e
    · rw [e]; exact NoCS.nul
    · exact (nm_ok e.1).1
  · rcases h3 with e | e
    · rw [e]; show (0 : Nat) ≤ 1000; omega
    · have := (nm_ok e.1).2; omega
theorem pair_tl {S : Nat → Prop} {W : World} {n : Nat} {a b : Tm} {ua ub : Value} (h : W.heap[n]? = some (.cells #[.string a.name, .string a.sort, ua, .string b.name, .string b.sort, ub] 24 (0, 0))) (hn : S n) (ha : TlR S W a.kids ua) (hb : TlR S W b.kids ub) : TlR S W [a, b] (.slice (some ⟨n, 0, none⟩) 2 2) := by
  refine .mk _ [ua, ub] _ rfl ?_ (fun i hi => ?_)
  · refine SlR.mk' rfl rfl (Nat.le_refl _) (fun _ => hn) (fun j hj => ?_)
    have hj6 : j < 6 := hj
    rw [Nat.zero_add, cell_of_row W n j _ _ _ h]
    have : j = 0 ∨ j = 1 ∨ j = 2 ∨ j = 3 ∨ j = 4 ∨ j = 5 := by omega
    rcases this with rfl | rfl | rfl | rfl | rfl | rfl <;> rfl
  · have : i = 0 ∨ i = 1 := by simp at hi; omega
    rcases this with rfl | rfl
    · exact ha
    · exact hb
end Go.Proofs.YtlkcjmaiahnodaaGreatDoor

/- first of the rules. -/
namespace Go.Proofs.YtlkcjmaiahnodaaGreatDoor
open Go.RowKit Go.Hw Go
set_option linter.unusedVariables false
set_option linter.unusedSimpArgs false

open Tm
theorem flR_sizes (L : List Rl) (k : Nat) (h : k < L.length) : sizes (flR (L.take (k + 1))) = sizes (flR (L.take k)) + (rg L k).1.size + (rg L k).2.size := by
  rw [rg_snoc L k h, flR_append, sizes_append]
  show _ + (_ + (_ + 0)) = _
  omega
theorem flR_sizes_le (L : List Rl) (k : Nat) : sizes (flR (L.take k)) ≤ sizes (flR L) := by
  have : sizes (flR L) = sizes (flR (L.take k)) + sizes (flR (L.drop k)) := by rw [← sizes_append, ← flR_append, List.take_append_drop]
  omega
/-- what first answers -/
def firstI (ops : List By) (L : List Rl) : Int := if firstP ops L < L.length then (firstP ops L : Int) else -1
theorem firstI_neg (ops : List By) (L : List Rl) : decide (firstI ops L < 0) = allDec ops L := by
  have h := firstP_all ops L
  unfold firstI
  by_cases h1 : firstP ops L < L.length
  · rw [if_pos h1, decide_eq_false (by omega)]
    rw [decide_eq_true h1] at h
    cases h2 : allDec ops L
    · rfl
    · rw [h2] at h; cases h
  · rw [if_neg h1, decide_eq_true (by omega)]
    rw [decide_eq_false h1] at h
    cases h2 : allDec ops L
    · rw [h2] at h; cases h
    · rfl
end Go.Proofs.YtlkcjmaiahnodaaGreatDoor

/- sides. -/
namespace Go.Proofs.YtlkcjmaiahnodaaGreatDoor
open Go.RowKit Go.Hw Go
set_option linter.unusedVariables false
set_option linter.unusedSimpArgs false

open Tm
end Go.Proofs.YtlkcjmaiahnodaaGreatDoor

/- apply of the rewrite package. -/
namespace Go.Proofs.YtlkcjmaiahnodaaGreatDoor
open Go.RowKit Go.Hw Go
set_option linter.unusedVariables false
set_option linter.unusedSimpArgs false

open Tm
/-- what apply answers -/
def ApP (o : Option Tm) (n0 : Nat) (w' : World) (v : Value) : Prop := ∃ r B, v = .tuple #[tV (o.getD default) r, .bool o.isSome] ∧ TlO 24 w' B (o.getD default).kids r ∧ ∀ j, B j → n0 ≤ j ∧ j < w'.heap.size
set_option maxRecDepth 100000 in
set_option maxHeartbeats 2000000 in
theorem apply_x (x y t : Tm) (v v' : Value) (xa ya : Option Addr) (xc yc : Nat) (S T : Nat → Prop) (w : World) (hx : TlR S w x.kids (.slice xa x.kids.length xc)) (hy : TlR S w y.kids (.slice ya y.kids.length yc)) (hv : v = .agg #[.string x.name, .string x.sort, .slice xa x.kids.length xc, .string y.name, .string y.sort, .slice ya y.kids.length yc]) (ht : TmR T w t v')
    (hS : ∀ k, S k → k < w.heap.size) (hT : ∀ k, T k → k < w.heap.size) (hsx : x.size ≤ 100000) (hsy : y.size ≤ 100000) (hst : t.size ≤ 100000) :
    Calls Tryz.prog 119 #[v, v'] w fun e w' => ∃ r, e = .returned r ∧ ApP (aplF (x, y) t) w.heap.size w' r ∧ Ext w w' := by
  subst hv
  obtain ⟨ta, tc, rfl, ht⟩ := ht
  have HX := Lib.hid hx
  have HY := Lib.hid hy
  have HT := Lib.hid ht
  have HS := Lib.hid (And.intro hS hT)
  have HSZ := Lib.hid (And.intro hsx (And.intro hsy hst))
  have hz0 := ((((Upd.refl (fun _ => False) w).alloc (.cells #[.string x.name, .string x.sort, .slice xa x.kids.length xc, .string y.name, .string y.sort, .slice ya y.kids.length yc] 146)).alloc (.cells #[.string t.name, .string t.sort, .slice ta t.kids.length tc] 24)).alloc (.cells #[.string ⟨#[]⟩, .string ⟨#[]⟩, .slice none 0 0] 24))
  have hb0 := allocOld (allocOld (allocOld (alloc0 w (.cells #[.string x.name, .string x.sort, .slice xa x.kids.length xc, .string y.name, .string y.sort, .slice ya y.kids.length yc] 146)) (.cells #[.string t.name, .string t.sort, .slice ta t.kids.length tc] 24)) (.cells #[.string ⟨#[]⟩, .string ⟨#[]⟩, .slice none 0 0] 24)) (.map #[] 0)
  have hb1 := allocOld (allocOld (alloc_at (w.alloc (.cells #[.string x.name, .string x.sort, .slice xa x.kids.length xc, .string y.name, .string y.sort, .slice ya y.kids.length yc] 146)) (.cells #[.string t.name, .string t.sort, .slice ta t.kids.length tc] 24) (n := w.heap.size + 1) (by simp)) (.cells #[.string ⟨#[]⟩, .string ⟨#[]⟩, .slice none 0 0] 24)) (.map #[] 0)
  have hb2 := allocOld (alloc_at ((w.alloc (.cells #[.string x.name, .string x.sort, .slice xa x.kids.length xc, .string y.name, .string y.sort, .slice ya y.kids.length yc] 146)).alloc (.cells #[.string t.name, .string t.sort, .slice ta t.kids.length tc] 24)) (.cells #[.string ⟨#[]⟩, .string ⟨#[]⟩, .slice none 0 0] 24) (n := w.heap.size + 2) (by simp)) (.map #[] 0)
  have hmd := BdR.made T (((w.alloc (.cells #[.string x.name, .string x.sort, .slice xa x.kids.length xc, .string y.name, .string y.sort, .slice ya y.kids.length yc] 146)).alloc (.cells #[.string t.name, .string t.sort, .slice ta t.kids.length tc] 24)).alloc (.cells #[.string ⟨#[]⟩, .string ⟨#[]⟩, .slice none 0 0] 24))
  have hsz : (((w.alloc (.cells #[.string x.name, .string x.sort, .slice xa x.kids.length xc, .string y.name, .string y.sort, .slice ya y.kids.length yc] 146)).alloc (.cells #[.string t.name, .string t.sort, .slice ta t.kids.length tc] 24)).alloc (.cells #[.string ⟨#[]⟩, .string ⟨#[]⟩, .slice none 0 0] 24)).heap.size = w.heap.size + 3 := by simp
  rw [hsz] at hmd
  have HZ := Lib.hid (hz0.alloc (.map #[] 0))
  have HB0 := Lib.hid hb0
  have HB1 := Lib.hid hb1
  have HB2 := Lib.hid hb2
  have HMD := Lib.hid hmd
  have HM := Lib.hid (fun W (hW : Ext w W) (hb : BdR T W (w.heap.size + 3) sb0) => match_x x t (.agg #[.string x.name, .string x.sort, .slice xa x.kids.length xc]) (.agg #[.string t.name, .string t.sort, .slice ta t.kids.length tc]) S T sb0 (w.heap.size + 3) W ⟨xa, xc, rfl, hx.ext hW⟩ ⟨ta, tc, rfl, ht.ext hW⟩ hb (fun h => by have := hS _ h; omega) (fun h => by have := hT _ h; omega) (by omega) hst)
  have HF := Lib.hid (fun τ W (hW : Ext w W) (hb : BdR T W (w.heap.size + 3) τ) => fill_x y (.agg #[.string y.name, .string y.sort, .slice ya y.kids.length yc]) S T τ (w.heap.size + 3) W ⟨ya, yc, rfl, hy.ext hW⟩ hb (fun k hk => Nat.lt_of_lt_of_le (hS k hk) hW.size) (fun k hk => Nat.lt_of_lt_of_le (hT k hk) hW.size) hsy)
  have HU : Hid (aplF (x, y) t = (mtch x t sb0).map fun σ => filT σ y) := Lib.hid rfl
  dsimp only [tV] at HF ⊢
  have a0 := cellRow hb0 0 (.string x.name) rfl
  have a1 := cellRow hb0 1 (.string x.sort) rfl
  have a2 := cellRow hb0 2 (.slice xa x.kids.length xc) rfl
  have b0 := cellRow hb1 0 (.string t.name) rfl
  have b1 := cellRow hb1 1 (.string t.sort) rfl
  have b2 := cellRow hb1 2 (.slice ta t.kids.length tc) rfl
  clear hx hy ht hS hT hsx hsy hst hz0 hb0 hb1 hb2 hmd hsz
  have hmm := @run_makeMap Tryz.prog
  go_enter Tryz.func119, Tryz.ntmps119
  go_wp2_with fail
  clear hmm
  refine (HM.out _ HZ.out HMD.out).mono ?_
  rintro e w5 ⟨rfl, hw5, hbd⟩
  have HE5 : Hid (Ext w w5) := Lib.hid (HZ.out.trans' hw5 (fun j hj e => by omega))
  have HC0 := Lib.hid (hw5.heap HB0.out (by omega))
  have HC5 := Lib.hid (hw5.heap HB2.out (by omega))
  have HBD := Lib.hid hbd
  obtain ⟨M, hM⟩ : ∃ M, mtch x t sb0 = M := ⟨_, rfl⟩
  rw [hM] at HBD HU ⊢
  clear hw5 hbd hM a0 a1 a2 b0 b1 b2 HM HMD HB0 HB1 HB2 HZ
  cases M with
  | none =>
    have HV : Hid (aplF (x, y) t = none) := Lib.hid HU.out
    simp only [Option.isSome_none]
    clear HU HF HBD
    have f5 := fun i => frozenRow HC5.out i
    have d0 := cellRow HC5.out 0 (.string ⟨#[]⟩) rfl
    have d1 := cellRow HC5.out 1 (.string ⟨#[]⟩) rfl
    have d2 := cellRow HC5.out 2 (.slice none 0 0) rfl
    go_wp2_with fail
    have hr := st3_heap HC5.out (.string ⟨#[]⟩) (.string ⟨#[]⟩) (.slice none 0 0)
    have hu := st3_upd' w5 (w.heap.size + 2) (.string ⟨#[]⟩) (.string ⟨#[]⟩) (.slice none 0 0)
    have e0 := cellRow hr 0 _ rfl
    have e1 := cellRow hr 1 _ rfl
    have e2 := cellRow hr 2 _ rfl
    refine bodyPost_ret (v := .tuple #[.agg #[.string ⟨#[]⟩, .string ⟨#[]⟩, .slice none 0 0], .bool false]) (by simp [results, Tryz.results119, go_sem, e0, e1, e2]) rfl ⟨_, rfl, by rw [HV.out]; exact ⟨.slice none 0 0, fun _ => False, rfl, TlO.nil _ _ _, fun _ h => h.elim⟩, HE5.out.trans' hu (fun j hj e => by omega)⟩
  | some τ =>
    have HV : Hid (aplF (x, y) t = some (filT τ y)) := Lib.hid HU.out
    simp only [Option.isSome_some]
    have HFX := Lib.hid (fun W (hW : Ext w5 W) => HF.out τ W (HE5.out.trans hW) ((HBD.out τ rfl).ext hW))
    obtain ⟨z, hz⟩ : ∃ z, filT τ y = z := ⟨_, rfl⟩
    rw [hz] at HFX HV
    have HFX0 := Lib.hid (HBD.out τ rfl)
    clear HU HF HBD hz
    have a3 := cellRow HC0.out 3 (.string y.name) rfl
    have a4 := cellRow HC0.out 4 (.string y.sort) rfl
    have a5 := cellRow HC0.out 5 (.slice ya y.kids.length yc) rfl
    go_wp2_with fail
    refine (HFX.out _ (Upd.refl _ _)).mono ?_
    rintro e w6 ⟨r, B, rfl, hT6, hb6, hw6⟩
    obtain ⟨za, zc, hry⟩ := TlO.shape hT6
    subst hry
    have HE6 := Lib.hid (HE5.out.trans hw6)
    have HT6 := Lib.hid hT6
    have HBX : Hid (∀ j, B j → w5.heap.size ≤ j ∧ j < w6.heap.size) := Lib.hid hb6
    have HS5 : Hid (w.heap.size + 3 ≤ w5.heap.size) := Lib.hid (by
      have h1 := HC5.out
      obtain ⟨l, h2, _⟩ := HFX0.out
      have := h2.lt
      omega)
    have HC6 := Lib.hid (hw6.heap HC5.out (fun h => h))
    clear hT6 hb6 hw6 HFX a3 a4 a5 HC5
    have f6 := fun i => frozenRow HC6.out i
    have d0 := cellRow HC6.out 0 (.string ⟨#[]⟩) rfl
    have d1 := cellRow HC6.out 1 (.string ⟨#[]⟩) rfl
    have d2 := cellRow HC6.out 2 (.slice none 0 0) rfl
    go_wp2_with fail
    have hr := st3_heap HC6.out (.string z.name) (.string z.sort) (.slice za z.kids.length zc)
    have hu := st3_upd' w6 (w.heap.size + 2) (.string z.name) (.string z.sort) (.slice za z.kids.length zc)
    have e0 := cellRow hr 0 _ rfl
    have e1 := cellRow hr 1 _ rfl
    have e2 := cellRow hr 2 _ rfl
    refine bodyPost_ret (v := .tuple #[.agg #[.string z.name, .string z.sort, .slice za z.kids.length zc], .bool true]) (by simp [results, Tryz.results119, go_sem, e0, e1, e2]) rfl ⟨_, rfl, by rw [HV.out]; exact ⟨.slice za z.kids.length zc, B, rfl, HT6.out.kept hu (fun j hj e => by have h1 := HBX.out j hj; have h2 := HS5.out; omega), fun j hj => ⟨by have h1 := HBX.out j hj; have h2 := HS5.out; omega, Nat.lt_of_lt_of_le (HBX.out j hj).2 hu.size⟩⟩, HE6.out.trans' hu (fun j hj e => by omega)⟩

end Go.Proofs.YtlkcjmaiahnodaaGreatDoor

/- at. -/
namespace Go.Proofs.YtlkcjmaiahnodaaGreatDoor
open Go.RowKit Go.Hw Go
set_option linter.unusedVariables false
set_option linter.unusedSimpArgs false

open Tm
/-- the subterm at a path of integers -/
def subI : Tm → List Int → Option Tm
  | t, [] => some t
  | t, i :: p => if i < 0 ∨ (t.kids.length : Int) ≤ i then none else subI (tg t.kids i.toNat) p
theorem subI_cons (t : Tm) (i : Int) (p : List Int) : subI t (i :: p) = if i < 0 ∨ (t.kids.length : Int) ≤ i then none else subI (tg t.kids i.toNat) p := by rw [subI]
theorem AdrP.snoc {w : World} {i : Nat} : ∀ {p : List Nat} {a a' a'' : Nat × Nat}, AdrP w p a a' → AdrP w [i] a' a'' → AdrP w (p ++ [i]) a a''
  | [], a, a', a'', h, h2 => by
    have h : a' = a := h
    rw [← h]; exact h2
  | j :: p, a, a', a'', h, h2 => by
    obtain ⟨g, off, n, c, h3, h4⟩ := h
    exact ⟨g, off, n, c, h3, AdrP.snoc h4 h2⟩
theorem subI_ok : ∀ {p : List Int} {t x : Tm}, subI t p = some x → okP t (p.map Int.toNat) ∧ tmAt t (p.map Int.toNat) = x
  | [], t, x, h => by
    injection h with h
    exact ⟨trivial, h⟩
  | i :: p, t, x, h => by
    rw [subI_cons] at h
    by_cases h1 : i < 0 ∨ (t.kids.length : Int) ≤ i
    · rw [if_pos h1] at h; cases h
    · rw [if_neg h1] at h
      obtain ⟨h2, h3⟩ := subI_ok h
      exact ⟨⟨by omega, h2⟩, h3⟩
/-- a term at an address -/
def TmA (S : Nat → Prop) (w : World) (a : Nat × Nat) (t : Tm) : Prop := ∃ xa xc, w.cell? ⟨a.1, a.2, none⟩ = some (.string t.name) ∧ w.cell? ⟨a.1, a.2 + 1, none⟩ = some (.string t.sort) ∧ w.cell? ⟨a.1, a.2 + 2, none⟩ = some (.slice xa t.kids.length xc) ∧ TlR S w t.kids (.slice xa t.kids.length xc)
/-- what at answers -/
def AtP (S : Nat → Prop) (w : World) (t : Tm) (p : List Int) (a : Nat × Nat) (e : Ending) : Prop :=
  (subI t p = none ∧ e = .returned (.pointer none)) ∨ ∃ x a', subI t p = some x ∧ e = .returned (.pointer (some ⟨a'.1, a'.2, none⟩)) ∧ AdrP w (p.map Int.toNat) a a' ∧ TmA S w a' x
theorem AtP.no {S : Nat → Prop} {w : World} {t : Tm} {p : List Int} {a : Nat × Nat} (h : subI t p = none) : AtP S w t p a (.returned (.pointer none)) := .inl ⟨h, rfl⟩
theorem AtP.yes {S : Nat → Prop} {w : World} {t x : Tm} {p : List Int} {a a' : Nat × Nat} (h : subI t p = some x) (h2 : AdrP w (p.map Int.toNat) a a') (h3 : TmA S w a' x) : AtP S w t p a (.returned (.pointer (some ⟨a'.1, a'.2, none⟩))) := .inr ⟨x, a', h, rfl, h2, h3⟩
set_option maxRecDepth 100000 in
set_option maxHeartbeats 2000000 in
theorem at_x (t : Tm) (p : List Int) (pv : Value) (a : Nat × Nat) (S T : Nat → Prop) (w : World) (hA : TmA S w a t) (hP : SlR T w 1 pv p.length (p.map (Value.int .i64))) (hl : p.length ≤ 1000000) :
    Calls Tryz.prog 171 #[.pointer (some ⟨a.1, a.2, none⟩), pv] w fun e w' => AtP S w t p a e ∧ w = w' := by
  obtain ⟨pa, pc, rfl⟩ := SlR.shape hP
  have HP := Lib.hid hP
  have HA := Lib.hid hA
  obtain ⟨b, o⟩ := a
  clear hP hA
  go_enter Tryz.func171, Tryz.ntmps171
  go_wp2_with fail
  go_loopg [0, 9] p.length (fun gk qv iv wr => ∃ (k : Nat) (c : Nat × Nat) (x : Tm), qv = .pointer (some ⟨c.1, c.2, none⟩) ∧ iv = .int .i64 (k : Int) ∧ gk = p.length - k ∧ k ≤ p.length ∧ Hid (subI t p = subI x (p.drop k)) ∧ Hid (AdrP w ((p.take k).map Int.toNat) (b, o) c) ∧ Hid (TmA S w c x) ∧ w = wr)
  case atStart => exact ⟨0, (b, o), t, rfl, rfl, rfl, Nat.zero_le _, Lib.hid rfl, Lib.hid rfl, HA, rfl⟩
  case round =>
    clear HA
    obtain ⟨k, ⟨cb, co⟩, x, rfl, rfl, rfl, hk, HS, HD, HX, rfl⟩ := hrel
    by_cases hlt : k < p.length
    · obtain ⟨g, off, hga, _, hat⟩ := SlR.one_at (d := (0 : Int)) HP.out (by omega)
      subst hga
      have q0 := hat k hlt
      have z0 : (0 : Int) ≤ (k : Int) := by omega
      have z1 : (k : Int) < (p.length : Int) := by omega
      have z2 : decide ((k : Int) < (p.length : Int)) = true := decide_eq_true z1
      have z2' : decide (k < p.length) = true := decide_eq_true hlt
      have hd : p.drop k = p.getD k 0 :: p.drop (k + 1) := by
        rw [List.drop_eq_getElem_cons hlt, List.getD_eq_getElem?_getD, List.getElem?_eq_getElem hlt]; rfl
      have htk : p.take (k + 1) = p.take k ++ [p.getD k 0] := by
        rw [List.take_add_one, List.getD_eq_getElem?_getD, List.getElem?_eq_getElem hlt]; rfl
      have hs := HS.out
      rw [hd, subI_cons] at hs
      have HS2 := Lib.hid hs
      have HTK := Lib.hid htk
      obtain ⟨i, hi⟩ : ∃ i, p.getD k 0 = i := ⟨_, rfl⟩
      rw [hi] at q0 HS2 HTK
      clear hat hd htk hs hi HS
      obtain ⟨xa, xc, x0, x1, x2, hx⟩ := HX.out
      dsimp only at x0 x1 x2
      by_cases hi0 : i < 0
      · have HV : Hid (subI t p = none) := Lib.hid (by rw [HS2.out, if_pos (.inl hi0)])
        have y1 : decide (i < 0) = true := decide_eq_true hi0
        clear x0 x1 x2 hx
        go_wp2_with fail
        all_goals go_ret
        all_goals exact ⟨AtP.no HV.out, rfl⟩
      have y1 : decide (i < 0) = false := decide_eq_false hi0
      by_cases hi1 : (x.kids.length : Int) ≤ i
      · have HV : Hid (subI t p = none) := Lib.hid (by rw [HS2.out, if_pos (.inr hi1)])
        have y2 : decide ((x.kids.length : Int) ≤ i) = true := decide_eq_true hi1
        clear x0 x1 hx
        go_wp2_with fail
        all_goals go_ret
        all_goals exact ⟨AtP.no HV.out, rfl⟩
      have y2 : decide ((x.kids.length : Int) ≤ i) = false := decide_eq_false hi1
      have HV : Hid (subI t p = subI (tg x.kids i.toNat) (p.drop (k + 1))) := Lib.hid (by rw [HS2.out, if_neg (by omega)])
      obtain ⟨j, rfl⟩ : ∃ j : Nat, i = (j : Int) := ⟨i.toNat, by omega⟩
      have hjn : ((j : Int)).toNat = j := by omega
      rw [hjn] at HV
      have hj : j < x.kids.length := by omega
      obtain ⟨g2, off2, hga2, _, hat2⟩ := hx.at_ (by omega)
      subst hga2
      obtain ⟨ya, yc, r0, r1, r2, hy⟩ := hat2 j hj
      have HD2 : Hid (AdrP w ((p.take (k + 1)).map Int.toNat) (b, o) (g2, off2 + j * 3)) := Lib.hid (by
        rw [HTK.out, List.map_append]
        refine AdrP.snoc HD.out ⟨g2, off2, x.kids.length, xc, x2, ?_⟩
        rw [hjn]
        rfl)
      have HX2 : Hid (TmA S w (g2, off2 + j * 3) (tg x.kids j)) := Lib.hid ⟨ya, yc, r0, by rw [Nat.add_assoc]; exact r1, by rw [Nat.add_assoc]; exact r2, hy⟩
      have u0 : (0 : Int) ≤ (j : Int) := by omega
      have u1 : (j : Int) < (x.kids.length : Int) := by omega
      clear x0 x1 hx hat2 r0 r1 r2 hy HS2 HTK HD HX hi0 hi1 hjn
      go_wp2_with fail
      go_roundg (p.length - (k + 1))
      case measure => omega
      case rel => exact ⟨k + 1, (g2, off2 + j * 3), tg x.kids j, rfl, by go_num, rfl, by omega, HV, HD2, HX2, rfl⟩
    · obtain rfl : k = p.length := by omega
      have z2 : decide ((p.length : Int) < (p.length : Int)) = false := decide_eq_false (by omega)
      have HV : Hid (subI t p = some x) := Lib.hid (by rw [HS.out, List.drop_length]; rfl)
      have hdd := HD.out
      rw [List.take_length] at hdd
      have HDD := Lib.hid hdd
      clear hdd
      go_wp2_with fail
      go_ret
      exact ⟨AtP.yes (a' := (cb, co)) HV.out HDD.out HX.out, rfl⟩

end Go.Proofs.YtlkcjmaiahnodaaGreatDoor

/- At. -/
namespace Go.Proofs.YtlkcjmaiahnodaaGreatDoor
open Go.RowKit Go.Hw Go
set_option linter.unusedVariables false
set_option linter.unusedSimpArgs false

open Tm
abbrev nulT : Tm := .mk nul nul []
/-- what At answers -/
def atF (t : Tm) (p : List Int) : Tm × Int := if wf nmB t = false then (nulT, 1) else match subI t p with
  | none => (nulT, 2)
  | some x => (x, 0)
theorem tmAt_size : ∀ (p : List Nat) (t : Tm), okP t p → (tmAt t p).size ≤ t.size
  | [], t, _ => Nat.le_refl _
  | i :: p, t, h => by
    have h1 := tmAt_size p _ h.2
    have h2 := size_kid (tg_mem t.kids i h.1)
    show (tmAt (tg t.kids i) p).size ≤ _
    omega
set_option maxRecDepth 100000 in
set_option maxHeartbeats 2000000 in
theorem At_x (t : Tm) (p : List Int) (tv pv : Value) (S T : Nat → Prop) (w : World) (hT : TmR S w t tv) (hS : ∀ k, S k → k < w.heap.size) (hP : SlR T w 1 pv p.length (p.map (Value.int .i64))) (htab : AscT w) (hsz : t.size ≤ 100000) (hl : p.length ≤ 1000000) :
    Calls Tryz.prog 118 #[tv, pv] w fun e w' => ∃ r, e = .returned (.tuple #[tV (atF t p).1 r, .int .i64 (atF t p).2]) ∧ TlR (fun k => w.heap.size ≤ k ∧ k < w'.heap.size) w' (atF t p).1.kids r ∧ Ext w w' := by
  obtain ⟨pa, pc, rfl⟩ := SlR.shape hP
  have HP := Lib.hid hP
  obtain ⟨a, cap, rfl, hT⟩ := hT
  have HT := Lib.hid hT
  have HE2 := Lib.hid (((Upd.refl (fun _ => False) w).alloc (.cells #[.string t.name, .string t.sort, .slice a t.kids.length cap] 24)).alloc (.cells #[.string ⟨#[]⟩, .string ⟨#[]⟩, .slice none 0 0] 24))
  have HB1 := Lib.hid (allocOld (alloc0 w (.cells #[.string t.name, .string t.sort, .slice a t.kids.length cap] 24)) (.cells #[.string ⟨#[]⟩, .string ⟨#[]⟩, .slice none 0 0] 24))
  have HB2 := Lib.hid (alloc_at (w.alloc (.cells #[.string t.name, .string t.sort, .slice a t.kids.length cap] 24)) (.cells #[.string ⟨#[]⟩, .string ⟨#[]⟩, .slice none 0 0] 24) (n := w.heap.size + 1) (by simp))
  have hz2 : ((w.alloc (.cells #[.string t.name, .string t.sort, .slice a t.kids.length cap] 24)).alloc (.cells #[.string ⟨#[]⟩, .string ⟨#[]⟩, .slice none 0 0] 24)).heap.size = w.heap.size + 2 := by simp
  have HZ2 := Lib.hid hz2
  have HWF := Lib.hid (fun W (hW : Ext w W) => wellFormed_x t _ W (asc_ext htab hW) ⟨a, cap, rfl, (hT.ext hW).weaken (fun k hk => Nat.lt_of_lt_of_le (hS k hk) hW.size)⟩ (by omega))
  have HSS := Lib.hid hS
  have HF0 : Hid (wf nmB t = false → atF t p = (nulT, 1)) := Lib.hid (fun h => by unfold atF; rw [if_pos h])
  have HF1 : Hid (wf nmB t = true → subI t p = none → atF t p = (nulT, 2)) := Lib.hid (fun h h2 => by unfold atF; rw [if_neg (by rw [h]; simp), h2])
  have HF2 : Hid (wf nmB t = true → ∀ x, subI t p = some x → atF t p = (x, 0)) := Lib.hid (fun h x h2 => by unfold atF; rw [if_neg (by rw [h]; simp), h2])
  obtain ⟨F, hF⟩ : ∃ F, atF t p = F := ⟨_, rfl⟩
  rw [hF] at HF0 HF1 HF2 ⊢
  dsimp only [tV] at HWF ⊢
  obtain ⟨WB, hWB⟩ : ∃ b, wf nmB t = b := ⟨_, rfl⟩
  rw [hWB] at HWF HF0 HF1 HF2
  clear hP hT hS htab hF hWB hz2
  have k0 := cellRow HB1.out 0 (.string t.name) rfl
  have k1 := cellRow HB1.out 1 (.string t.sort) rfl
  have k2 := cellRow HB1.out 2 (.slice a t.kids.length cap) rfl
  go_enter Tryz.func118, Tryz.ntmps118
  go_wp2_with fail
  refine (HWF.out _ HE2.out).mono ?_
  rintro e w4 ⟨rfl, hw4⟩
  have H4 : Hid (Ext w w4) := Lib.hid (HE2.out.trans hw4)
  have HB14 := Lib.hid (hw4.heap HB1.out (fun h => h))
  have HB24 := Lib.hid (hw4.heap HB2.out (fun h => h))
  have HZ4 : Hid (w.heap.size + 2 ≤ w4.heap.size) := Lib.hid (by rw [← HZ2.out]; exact hw4.size)
  clear hw4 k0 k1 k2 HWF HB1 HB2 HE2
  cases WB
  · have HV := Lib.hid (HF0.out (by simp))
    have f2 := fun i => frozenRow HB24.out i
    have d0 := cellRow HB24.out 0 (.string ⟨#[]⟩) rfl
    have d1 := cellRow HB24.out 1 (.string ⟨#[]⟩) rfl
    have d2 := cellRow HB24.out 2 (.slice none 0 0) rfl
    go_wp2_with fail
    have hr := st3_heap HB24.out (.string ⟨#[]⟩) (.string ⟨#[]⟩) (.slice none 0 0)
    have hu := st3_upd' w4 (w.heap.size + 1) (.string ⟨#[]⟩) (.string ⟨#[]⟩) (.slice none 0 0)
    have e0 := cellRow hr 0 (.string ⟨#[]⟩) rfl
    have e1 := cellRow hr 1 (.string ⟨#[]⟩) rfl
    have e2 := cellRow hr 2 (.slice none 0 0) rfl
    refine bodyPost_ret (v := .tuple #[.agg #[.string ⟨#[]⟩, .string ⟨#[]⟩, .slice none 0 0], .int .i64 1]) (by simp [results, Tryz.results118, go_sem, e0, e1, e2]) rfl ⟨.slice none 0 0, by rw [HV.out]; rfl, by rw [HV.out]; exact TlR.nil _ _, H4.out.trans' hu (fun j hj e => by omega)⟩
  have HAT := Lib.hid (at_x t p (.slice pa p.length pc) (w.heap.size, 0) S T w4 ⟨a, cap, cellRow HB14.out 0 _ rfl, cellRow HB14.out 1 _ rfl, cellRow HB14.out 2 _ rfl, HT.out.ext H4.out⟩ (SlR.kept HP.out H4.out (fun _ _ h => h)) hl)
  go_wp2_with fail
  refine HAT.out.mono ?_
  rintro e w5 ⟨hat, rfl⟩
  rcases hat with ⟨hs, rfl⟩ | ⟨x, a', hs, rfl, _, xa, xc, x0, x1, x2, hx⟩
  · have HV := Lib.hid (HF1.out (by simp) hs)
    have f2 := fun i => frozenRow HB24.out i
    have d0 := cellRow HB24.out 0 (.string ⟨#[]⟩) rfl
    have d1 := cellRow HB24.out 1 (.string ⟨#[]⟩) rfl
    have d2 := cellRow HB24.out 2 (.slice none 0 0) rfl
    go_wp2_with fail
    have hr := st3_heap HB24.out (.string ⟨#[]⟩) (.string ⟨#[]⟩) (.slice none 0 0)
    have hu := st3_upd' w4 (w.heap.size + 1) (.string ⟨#[]⟩) (.string ⟨#[]⟩) (.slice none 0 0)
    have e0 := cellRow hr 0 (.string ⟨#[]⟩) rfl
    have e1 := cellRow hr 1 (.string ⟨#[]⟩) rfl
    have e2 := cellRow hr 2 (.slice none 0 0) rfl
    refine bodyPost_ret (v := .tuple #[.agg #[.string ⟨#[]⟩, .string ⟨#[]⟩, .slice none 0 0], .int .i64 2]) (by simp [results, Tryz.results118, go_sem, e0, e1, e2]) rfl ⟨.slice none 0 0, by rw [HV.out]; rfl, by rw [HV.out]; exact TlR.nil _ _, H4.out.trans' hu (fun j hj e => by omega)⟩
  · have HV := Lib.hid (HF2.out (by simp) x hs)
    have hso := subI_ok hs
    have hxs : x.size ≤ 100000 := by
      have h1 := tmAt_size _ t hso.1
      rw [hso.2] at h1
      omega
    have HC := Lib.hid (copied_x x _ S w4 ⟨xa, xc, rfl, hx⟩ (fun k hk => Nat.lt_of_lt_of_le (HSS.out k hk) H4.out.size) hxs)
    dsimp only [tV] at HC
    obtain ⟨ab, ao⟩ := a'
    dsimp only at x0 x1 x2
    clear hs hso hxs hx HF0 HF1 HF2 HAT
    go_wp2_with fail
    refine HC.out.mono ?_
    rintro e w6 ⟨r, B, rfl, hO6, hB6, hw6⟩
    have H6 := Lib.hid (H4.out.trans hw6)
    have HB26 := Lib.hid (hw6.heap HB24.out (fun h => h))
    have HO6 := Lib.hid hO6
    have HBB : Hid (∀ j, B j → w.heap.size + 2 ≤ j ∧ j < w6.heap.size) := Lib.hid (fun j hj => ⟨Nat.le_trans HZ4.out (hB6 j hj).1, (hB6 j hj).2⟩)
    obtain ⟨ra, rc, hrv⟩ := TlO.shape hO6
    subst hrv
    clear hO6 hB6 hw6 x0 x1 x2 HC
    have f2 := fun i => frozenRow HB26.out i
    have d0 := cellRow HB26.out 0 (.string ⟨#[]⟩) rfl
    have d1 := cellRow HB26.out 1 (.string ⟨#[]⟩) rfl
    have d2 := cellRow HB26.out 2 (.slice none 0 0) rfl
    go_wp2_with fail
    have hr := st3_heap HB26.out (.string x.name) (.string x.sort) (.slice ra x.kids.length rc)
    have hu := st3_upd' w6 (w.heap.size + 1) (.string x.name) (.string x.sort) (.slice ra x.kids.length rc)
    have e0 := cellRow hr 0 (.string x.name) rfl
    have e1 := cellRow hr 1 (.string x.sort) rfl
    have e2 := cellRow hr 2 (.slice ra x.kids.length rc) rfl
    refine bodyPost_ret (v := .tuple #[.agg #[.string x.name, .string x.sort, .slice ra x.kids.length rc], .int .i64 0]) (by simp [results, Tryz.results118, go_sem, e0, e1, e2]) rfl ⟨.slice ra x.kids.length rc, by rw [HV.out], ?_, H6.out.trans' hu (fun j hj e => by omega)⟩
    rw [HV.out]
    exact ((HO6.out.kept hu (fun j hj e => by have := (HBB.out j hj).1; omega)).read).weaken (fun j hj => ⟨by have := (HBB.out j hj).1; omega, Nat.lt_of_lt_of_le (HBB.out j hj).2 hu.size⟩)

end Go.Proofs.YtlkcjmaiahnodaaGreatDoor

/- Replace. -/
namespace Go.Proofs.YtlkcjmaiahnodaaGreatDoor
open Go.RowKit Go.Hw Go
set_option linter.unusedVariables false
set_option linter.unusedSimpArgs false

open Tm
/-- what Replace answers -/
def repF (t : Tm) (p : List Int) (u : Tm) : Tm × Int :=
  if wf nmB t = false ∨ wf nmB u = false then (nulT, 1) else match subI t p with
    | none => (nulT, 2)
    | some _ => if formed nmB (putAt t (p.map Int.toNat) u) = false then (nulT, 4) else if (sortsT (putAt t (p.map Int.toNat) u)).isSome = false then (nulT, 11) else (putAt t (p.map Int.toNat) u, 0)
theorem sizes_set (z : Tm) : ∀ (L : List Tm) (i : Nat), i < L.length → sizes (L.set i z) + (tg L i).size = sizes L + z.size
  | a :: L, 0, _ => by
    show sizes (z :: L) + a.size = sizes (a :: L) + z.size
    simp only [sizes]; omega
  | a :: L, i + 1, h => by
    have ih := sizes_set z L i (by simpa using h)
    show sizes (a :: L.set i z) + (tg L i).size = sizes (a :: L) + z.size
    simp only [sizes]; omega
theorem putAt_size (y : Tm) : ∀ (p : List Nat) (t : Tm), okP t p → (putAt t p y).size ≤ t.size + y.size
  | [], t, _ => by
    have e : putAt t [] y = y := by cases t; rfl
    rw [e]; omega
  | i :: p, t, h => by
    obtain ⟨nm, so, L⟩ := t
    have h1 := putAt_size y p (tg L i) h.2
    have h2 := sizes_set (putAt (tg L i) p y) L i h.1
    have e : putAt (.mk nm so L) (i :: p) y = .mk nm so (L.set i (putAt (tg L i) p y)) := rfl
    rw [e, size_eq, size_eq]
    simp only [Tm.kids]
    omega
theorem AdrP.ext {w w' : World} (hE : Ext w w') : ∀ {p : List Nat} {a a' : Nat × Nat}, AdrP w p a a' → AdrP w' p a a'
  | [], _, _, h => h
  | i :: p, a, a', ⟨g, off, n, c, h1, h2⟩ => ⟨g, off, n, c, hE.cell h1 (fun h => h), AdrP.ext hE h2⟩
end Go.Proofs.YtlkcjmaiahnodaaGreatDoor

/- Well-formed, copied, same: of unify. -/
namespace Go.Proofs.YtlkcjmaiahnodaaGreatDoor
open Go.RowKit Go.Hw Go
set_option linter.unusedVariables false
set_option linter.unusedSimpArgs false

open Tm
set_option maxRecDepth 100000 in
set_option maxHeartbeats 2000000 in
theorem uform_x (t : Tm) (v : Value) (w : World) (htab : AscT w) (hR : TmR (fun k => k < w.heap.size) w t v) (hsz : (t.size : Int) ≤ 1000000000000) : Calls Tryz.prog 78 #[v] w fun e w' => e = .returned (.bool (wf nmB t)) ∧ Ext w w' := by
  have HR := Lib.hid hR
  obtain ⟨a, cap, rfl, hT⟩ := hR
  have hb := alloc0 w (.cells #[.string t.name, .string t.sort, .slice a t.kids.length cap] 24)
  have HZ := Lib.hid ((Upd.refl (fun _ => False) w).alloc (.cells #[.string t.name, .string t.sort, .slice a t.kids.length cap] 24))
  have HS := Lib.hid (fun W (hW : Ext w W) => Size_x t _ W (asc_ext htab hW) ((HR.out.ext hW).weaken (fun k hk => Nat.lt_of_lt_of_le hk hW.size)) hsz)
  dsimp only [tV] at HS ⊢
  have c0 := cellRow hb 0 (.string t.name) rfl
  have c1 := cellRow hb 1 (.string t.sort) rfl
  have c2 := cellRow hb 2 (.slice a t.kids.length cap) rfl
  have hpos := size_pos t
  have hz : decide (0 < szF t) = wf nmB t := by
    unfold szF
    by_cases h : wf nmB t = true
    · rw [if_pos h, h, decide_eq_true (by omega)]
    · rw [if_neg h, Bool.eq_false_iff.2 h]; rfl
  have HV := Lib.hid hz
  obtain ⟨X, hX⟩ : ∃ X, szF t = X := ⟨_, rfl⟩
  rw [hX] at HS HV
  clear hz hX hT hb
  go_enter Tryz.func78, Tryz.ntmps78
  go_wp2_with fail
  refine (HS.out _ HZ.out).mono ?_
  rintro e w4 ⟨rfl, hw4⟩
  have H4 := Lib.hid (HZ.out.ext hw4)
  clear hw4 c0 c1 c2
  by_cases h0 : 0 < X
  · have t0 : (0 : Int) < (X : Int) := by omega
    have t1 : decide ((0 : Int) < (X : Int)) = true := decide_eq_true t0
    have HV2 : Hid (wf nmB t = true) := Lib.hid (by rw [← HV.out]; exact decide_eq_true h0)
    go_wp2_with fail
    go_ret
    rw [HV2.out]
    exact ⟨rfl, H4.out⟩
  · have t0 : ¬ (0 : Int) < (X : Int) := by omega
    have t1 : decide ((0 : Int) < (X : Int)) = false := decide_eq_false t0
    have HV2 : Hid (wf nmB t = false) := Lib.hid (by rw [← HV.out]; exact decide_eq_false h0)
    go_wp2_with fail
    go_ret
    rw [HV2.out]
    exact ⟨rfl, H4.out⟩
/-- what put answers -/
def putF (t : Tm) (p : List Nat) (u : Tm) : Tm × Int := if wf nmB (putAt t p u) = true then (putAt t p u, 0) else (nulT, 4)
set_option maxRecDepth 100000 in
set_option maxHeartbeats 2000000 in
theorem ucopied_x : ∀ (t : Tm) (v : Value) (S : Nat → Prop) (w : World), TmR S w t v → (∀ k, S k → k < w.heap.size) → t.size ≤ 100000 →
    Calls Tryz.prog 96 #[v] w fun e w' => ∃ r B, e = .returned (tV t r) ∧ TlO 24 w' B t.kids r ∧ (∀ j, B j → w.heap.size ≤ j ∧ j < w'.heap.size) ∧ Ext w w' := by
  refine Tm.ind (fun nm so L ih => ?_)
  intro v S w hT hS hsz
  obtain ⟨a, cap, rfl, hT⟩ := hT
  dsimp only [tV, Tm.name, Tm.sort, Tm.kids] at hT ⊢
  have HTL := Lib.hid hT
  have HIH := Lib.hid ih
  have HSS := Lib.hid hS
  have hszL : sizes L + 1 ≤ 100000 := by rw [size_eq] at hsz; simp only [Tm.kids] at hsz; omega
  have HSL := Lib.hid hszL
  have hlL : L.length ≤ 100000 := by have h1 := length_le_sizes L; omega
  have hx3 := (((Upd.refl (fun _ => False) w).alloc (.cells #[.string nm, .string so, .slice a L.length cap] 24)).alloc (.cells #[.string ⟨#[]⟩, .string ⟨#[]⟩, .slice none 0 0] 24)).alloc (.cells #[.string nm, .string so, .slice none 0 0] 24)
  have hb2 := allocOld (alloc_at (w.alloc (.cells #[.string nm, .string so, .slice a L.length cap] 24)) (.cells #[.string ⟨#[]⟩, .string ⟨#[]⟩, .slice none 0 0] 24) (n := w.heap.size + 1) (by simp)) (.cells #[.string nm, .string so, .slice none 0 0] 24)
  have hb3 := alloc_at ((w.alloc (.cells #[.string nm, .string so, .slice a L.length cap] 24)).alloc (.cells #[.string ⟨#[]⟩, .string ⟨#[]⟩, .slice none 0 0] 24)) (.cells #[.string nm, .string so, .slice none 0 0] 24) (n := w.heap.size + 1 + 1) (by simp)
  have hz0 : (((w.alloc (.cells #[.string nm, .string so, .slice a L.length cap] 24)).alloc (.cells #[.string ⟨#[]⟩, .string ⟨#[]⟩, .slice none 0 0] 24)).alloc (.cells #[.string nm, .string so, .slice none 0 0] 24)).heap.size = w.heap.size + 3 := by simp
  have HB2 := Lib.hid hb2
  have HB3 := Lib.hid hb3
  have HE0 := Lib.hid hx3
  have HZ0 := Lib.hid hz0
  clear ih hT hS hsz hszL
  clear hb2 hb3 hx3 hz0
  go_enter Tryz.func96, Tryz.ntmps96
  go_wp2_with fail
  generalize (((w.alloc (.cells #[.string nm, .string so, .slice a L.length cap] 24)).alloc (.cells #[.string ⟨#[]⟩, .string ⟨#[]⟩, .slice none 0 0] 24)).alloc (.cells #[.string nm, .string so, .slice none 0 0] 24)) = W0 at *
  obtain ⟨n3, hn3⟩ : ∃ n3, w.heap.size + 1 + 1 = n3 := ⟨_, rfl⟩
  rw [hn3] at HB3 ⊢
  have HN3 := Lib.hid hn3
  clear hn3
  have HJ0 : Hid (CpJ 24 (w.heap.size + 3) W0 L (.slice none 0 0) [] (fun _ _ => False) 0) := Lib.hid ⟨rfl, ⟨rfl, .inl ⟨rfl, rfl⟩⟩, fun i hi => absurd hi (Nat.not_lt_zero _), fun i j hi => absurd hi (Nat.not_lt_zero _), fun i i' j hi => absurd hi (Nat.not_lt_zero _)⟩
  have HSW0 : Hid (w.heap.size + 3 ≤ W0.heap.size) := Lib.hid (by rw [HZ0.out]; exact Nat.le_refl _)
  clear HZ0
  go_loopg [14] L.length (fun gk iv wr => ∃ (k : Nat) (lv : Value) (us : List Value) (Bk : Nat → Nat → Prop), iv = .int .i64 (k : Int) ∧ gk = L.length - k ∧ k ≤ L.length ∧ Hid (CpJ 24 (w.heap.size + 3) wr L lv us Bk k) ∧ Hid (wr.heap[w.heap.size + 1]? = some (.cells #[.string ⟨#[]⟩, .string ⟨#[]⟩, .slice none 0 0] 24 (0, 0))) ∧ Hid (wr.heap[n3]? = some (.cells #[.string nm, .string so, lv] 24 (0, 0))) ∧ Hid (Ext w wr) ∧ Hid (w.heap.size + 3 ≤ wr.heap.size))
  case atStart => exact ⟨0, _, _, _, rfl, rfl, Nat.zero_le _, HJ0, HB2, HB3, HE0, HSW0⟩
  case round =>
    clear HJ0 HB2 HB3 HE0 HSW0
    obtain ⟨k, lv, us, Bk, rfl, rfl, hk, HJ, HB2, HB3, HE, HSZ⟩ := hrel
    obtain ⟨la, lc, hlv⟩ := own_shape HJ.out.own
    subst hlv
    by_cases hlt : k < L.length
    · obtain ⟨g, off, hga, _, hat⟩ := (HTL.out.ext HE.out).at_ (by omega)
      subst hga
      obtain ⟨xa, xc, q0, q1, q2, hkid⟩ := hat k hlt
      rw [← Nat.add_assoc] at q1 q2
      have z0 : (0 : Int) ≤ (k : Int) := by omega
      have z1 : (k : Int) < (L.length : Int) := by omega
      have z2 : decide ((k : Int) < (L.length : Int)) = true := decide_eq_true z1
      have z2' : decide (k < L.length) = true := decide_eq_true hlt
      have HIX := Lib.hid (fun W (hW : Ext (wr.alloc (.cells #[.string (tg L k).name, .string (tg L k).sort, .slice xa (tg L k).kids.length xc] 24)) W) => HIH.out (tg L k) (tg_mem L k hlt) _ S W ⟨xa, xc, rfl, (hkid.ext ((Upd.refl (fun _ => False) wr).alloc _)).ext hW⟩ (fun j hj => Nat.lt_of_lt_of_le (HSS.out j hj) (Nat.le_trans HE.out.size (Nat.le_trans ((Upd.refl (fun _ => False) wr).alloc (.cells #[.string (tg L k).name, .string (tg L k).sort, .slice xa (tg L k).kids.length xc] 24)).size hW.size))) (by have h1 := HSL.out; have h2 := sizes_take L k hlt; have h3 := sizes_take_le L (k + 1); omega))
      dsimp only [tV] at HIX
      obtain ⟨x, hx⟩ : ∃ x, tg L k = x := ⟨_, rfl⟩
      have HX := Lib.hid hx
      rw [hx] at q0 q1 q2 HIX
      have hQ := (Upd.refl (fun _ => False) wr).alloc (.cells #[.string x.name, .string x.sort, .slice xa x.kids.length xc] 24)
      have hB5 := alloc0 wr (.cells #[.string x.name, .string x.sort, .slice xa x.kids.length xc] 24)
      have b0 := cellRow hB5 0 (.string x.name) rfl
      have b1 := cellRow hB5 1 (.string x.sort) rfl
      have b2 := cellRow hB5 2 (.slice xa x.kids.length xc) rfl
      have hB3q := allocOld HB3.out (.cells #[.string x.name, .string x.sort, .slice xa x.kids.length xc] 24)
      have c2 := cellRow hB3q 2 (.slice la k lc) rfl
      have HBQ := Lib.hid hB3q
      have HQ := Lib.hid hQ
      have HB2Q := Lib.hid (allocOld HB2.out (.cells #[.string x.name, .string x.sort, .slice xa x.kids.length xc] 24))
      have HOQ := Lib.hid (HJ.out.own.alloc (.cells #[.string x.name, .string x.sort, .slice xa x.kids.length xc] 24))
      have HRN : Hid (¬ (Value.slice la k lc).ownBlock = some n3) := Lib.hid (fun e => by have h1 := (HJ.out.own.lt n3 e).1; have := HN3.out; omega)
      have HK : Hid (k ≤ 100000) := Lib.hid (by omega)
      obtain ⟨iT, hi, hz0, hz1, hz2⟩ := info_parts infoT
      clear hat hkid hx hQ hB5 hB3q
      go_wp2_with fail
      generalize wr.alloc (.cells #[.string x.name, .string x.sort, .slice xa x.kids.length xc] 24) = wq at *
      have HWQ : Hid (Ext wq wq) := Lib.hid (Upd.refl _ _)
      have HSQ : Hid (w.heap.size + 3 ≤ wq.heap.size) := Lib.hid (Nat.le_trans HSZ.out HQ.out.size)
      clear q0 q1 q2
      go_region_law (first
  | (refine step_append_at _ (.tmp 19) (.tmp 22) 22 rfl (w.heap.size + 3) 24 iT (.agg #[.string ⟨#[]⟩, .string ⟨#[]⟩, .slice none 0 0]) 3 56 Tryz.underlying22 hi hz0 hz1 hz2 rfl (by decide) _ _ _ rfl HOW5.out _ 1 1 [.string x.name, .string x.sort, .slice ya x.kids.length yc] rfl rfl HNEW.out HONE.out HLM.out.1 HLM.out.2.1 HLM.out.2.2 ?_; intro v7 w7 hG7; obtain ⟨a7, c7, hv7⟩ := own_shape hG7.own; subst hv7; have hB7 := hG7.upd.heap (allocOld HB5.out (.cells #[.string x.name, .string x.sort, .slice ya x.kids.length yc] 24)) HRN.out; have f7 := fun i => frozenRow hB7 i; have c2 := cellRow hB7 2 (.slice la k lc) rfl; have HB7 := Lib.hid hB7; have HG7 := Lib.hid hG7; clear hG7 hB7)
  | (go_simp; refine (HIX.out wq.drew HWQ.out.drew).mono ?_; rintro e w5 ⟨r, Bx, rfl, hT5, hb5, hw5⟩; obtain ⟨ya, yc, hry⟩ := TlO.shape hT5; subst hry; have HW5 : Hid (Ext wq w5) := Lib.hid (((Upd.refl (fun _ => False) wq).drewN' 1).trans hw5); have HT5 := Lib.hid hT5; have HBX5 : Hid (∀ j, Bx j → wq.heap.size ≤ j ∧ j < w5.heap.size) := Lib.hid hb5; have HB5 := Lib.hid (HW5.out.heap HBQ.out (fun h => h)); have HOW5 : Hid ((w5.alloc (.cells #[.string x.name, .string x.sort, .slice ya x.kids.length yc] 24)).ownsRow (w.heap.size + 3) 24 3 (.slice la k lc) k (tCells (L.take k) us)) := Lib.hid ((own_kept HOQ.out HW5.out (fun _ _ h => h)).alloc _); have HNEW : Hid (∀ (j : Nat) (u : Value), [Value.string x.name, .string x.sort, .slice ya x.kids.length yc][j]? = some u → (w5.alloc (.cells #[.string x.name, .string x.sort, .slice ya x.kids.length yc] 24)).cell? ((⟨w5.heap.size, 0, none⟩ : Addr).add j) = some u) := Lib.hid (new3 w5 _ _ _ 24); have HONE : Hid (∀ u ∈ [Value.string x.name, .string x.sort, .slice ya x.kids.length yc], u.oneCell' = true) := Lib.hid (fun u hu => by simp at hu; rcases hu with h | h | h <;> (subst h; rfl)); have HLM : Hid (k + 1 ≤ maxLen ∧ (k + 1) * 56 ≤ 140737488355328 ∧ w.heap.size + 3 ≤ (w5.alloc (.cells #[.string x.name, .string x.sort, .slice ya x.kids.length yc] 24)).heap.size) := Lib.hid ⟨by unfold maxLen; have := HK.out; omega, by have := HK.out; omega, by have h1 := HW5.out.size; have h2 := HSQ.out; simp; omega⟩; have c5 := HW5.out.cell c2 (fun h => h); have c6 := ((Upd.refl (fun _ => False) w5).alloc (.cells #[.string x.name, .string x.sort, .slice ya x.kids.length yc] 24)).cell c5 (fun h => h); clear hT5 hb5 hw5))
      all_goals
        go_wp2_with fail
        have HS8 := Lib.hid ((Upd.refl (fun j => j = n3) w7).setCell (p := ⟨n3, 2, none⟩) (.inl rfl) (.slice a7 (k + 1) c7))
        have HU8 : Hid (Upd (fun j => (Value.slice la k lc).ownBlock = some j ∨ j = n3) wq (w7.setCell ⟨n3, 2, none⟩ (.slice a7 (k + 1) c7))) := Lib.hid (((((HW5.out.alloc (.cells #[.string x.name, .string x.sort, .slice ya x.kids.length yc] 24)).mono (fun _ _ x => x.elim)).trans (HG7.out.upd.mono (fun _ _ e => .inl e)))).trans (HS8.out.mono (fun _ _ e => .inr e)))
        have HJ8 := Lib.hid (HJ.out.grow hlt HX.out (by have := HN3.out; omega) HSZ.out HQ.out HW5.out HT5.out HBX5.out ((Upd.refl (fun _ => False) w5).alloc (.cells #[.string x.name, .string x.sort, .slice ya x.kids.length yc] 24)) HG7.out HS8.out)
        have HE8 : Hid (Ext w (w7.setCell ⟨n3, 2, none⟩ (.slice a7 (k + 1) c7))) := Lib.hid ((HE.out.trans HQ.out).trans' HU8.out (fun j hj e => by
          rcases e with e | e
          · have h1 := (HJ.out.own.lt j e).1; omega
          · have := HN3.out; omega))
        have HB28 := Lib.hid (HU8.out.heap HB2Q.out (fun e => by
          rcases e with e | e
          · have h1 := (HJ.out.own.lt _ e).1; omega
          · have := HN3.out; omega))
        have hb38 := setBlock HB7.out 2 (.slice a7 (k + 1) c7)
        have HB38 : Hid ((w7.setCell ⟨n3, 2, none⟩ (.slice a7 (k + 1) c7)).heap[n3]? = some (.cells #[.string nm, .string so, .slice a7 (k + 1) c7] 24 (0, 0))) := Lib.hid (by simpa using hb38)
        have HS9 : Hid (w.heap.size + 3 ≤ (w7.setCell ⟨n3, 2, none⟩ (.slice a7 (k + 1) c7)).heap.size) := Lib.hid (Nat.le_trans HSQ.out HU8.out.size)
        clear hb38 c2 f7
        go_roundg (L.length - (k + 1))
        case measure => omega
        case rel => exact ⟨k + 1, _, _, _, by go_num, rfl, by omega, HJ8, HB28, HB38, HE8, HS9⟩
    · obtain rfl : k = L.length := by omega
      have z2 : decide ((L.length : Int) < (L.length : Int)) = false := decide_eq_false (by omega)
      have c0 := cellRow HB3.out 0 (.string nm) rfl
      have c1 := cellRow HB3.out 1 (.string so) rfl
      have c2 := cellRow HB3.out 2 (.slice la L.length lc) rfl
      have f2 := fun i => frozenRow HB2.out i
      have d0 := cellRow HB2.out 0 (.string ⟨#[]⟩) rfl
      have d1 := cellRow HB2.out 1 (.string ⟨#[]⟩) rfl
      have d2 := cellRow HB2.out 2 (.slice none 0 0) rfl
      go_wp2_with fail
      have hr := st3_heap HB2.out (.string nm) (.string so) (.slice la L.length lc)
      have hu := st3_upd' wr (w.heap.size + 1) (.string nm) (.string so) (.slice la L.length lc)
      have e0 := cellRow hr 0 _ rfl
      have e1 := cellRow hr 1 _ rfl
      have e2 := cellRow hr 2 _ rfl
      refine bodyPost_ret (v := .agg #[.string nm, .string so, .slice la L.length lc]) (by simp [results, Tryz.results172, go_sem, e0, e1, e2]) rfl ⟨.slice la L.length lc, _, rfl, HJ.out.fin.kept hu (fun j hj e => by have h1 := hj.1; omega), fun j hj => ⟨by have h1 := hj.1; omega, Nat.lt_of_lt_of_le hj.2 hu.size⟩, HE.out.trans' hu (fun j hj e => by omega)⟩

set_option maxRecDepth 100000 in
set_option maxHeartbeats 2000000 in
theorem ueqf_x (L M : List Tm) (v v' : Value) (S T : Nat → Prop) (w : World) (hR : TlR S w L v) (hR' : TlR T w M v') (hl : L.length ≤ 1000000)
    (hf : ∀ t ∈ L, ∀ u v1 v2 W, Ext w W → TmR S W t v1 → TmR T W u v2 → Calls Tryz.prog 134 #[v1, v2] W fun e W' => e = .returned (.bool (decide (t = u))) ∧ Ext W W') :
    Calls Tryz.prog 190 #[v, v', .func (.func 134) #[] #[]] w fun e w' => e = .returned (.bool (decide (L = M))) ∧ Ext w w' := by
  obtain ⟨aa, ca, rfl⟩ := hR.shape
  obtain ⟨ab, cb, rfl⟩ := hR'.shape
  have HTL := Lib.hid (And.intro hR hR')
  have HF := Lib.hid hf
  have HL := Lib.hid hl
  clear hR hR' hf hl
  by_cases hlen : L.length = M.length
  · have hz1 : ((L.length : Int) != (M.length : Int)) = false := by simp [hlen]
    have H3 := Lib.hid hlen
    clear hlen
    go_enter Tryz.func190, Tryz.ntmps190
    go_wp2_with fail
    clear hz1
    go_loopg [17] L.length (fun gk iv wr => ∃ k : Nat, iv = .int .i64 (k : Int) ∧ gk = L.length - k ∧ k ≤ L.length ∧ Hid (∀ j, j < k → tg L j = tg M j) ∧ Hid (Ext w wr))
    case atStart => exact ⟨0, rfl, rfl, Nat.zero_le _, Lib.hid (fun j h => absurd h (Nat.not_lt_zero _)), Lib.hid (Upd.refl _ _)⟩
    case round =>
      obtain ⟨k, rfl, rfl, hk, HC, HE⟩ := hrel
      by_cases hlt : k < L.length
      · have hltM : k < M.length := by have := H3.out; omega
        obtain ⟨g, off, hga, _, hat⟩ := (HTL.out.1.ext HE.out).at_ (by omega)
        obtain ⟨g', off', hga', _, hat'⟩ := (HTL.out.2.ext HE.out).at_ (by omega)
        subst hga
        subst hga'
        obtain ⟨xa, xc, q0, q1, q2, hkid⟩ := hat k hlt
        obtain ⟨ya, yc, p0, p1, p2, hkid'⟩ := hat' k hltM
        have z0 : (0 : Int) ≤ (k : Int) := by omega
        have z1 : (k : Int) < (L.length : Int) := by omega
        have z2 : decide ((k : Int) < (L.length : Int)) = true := decide_eq_true z1
        have z2' : decide (k < L.length) = true := decide_eq_true hlt
        have z3 : (k : Int) < (M.length : Int) := by omega
        have HIX := Lib.hid (fun W (hW : Ext wr W) => HF.out (tg L k) (tg_mem L k hlt) (tg M k) _ _ W (HE.out.trans hW) ⟨xa, xc, rfl, hkid.ext hW⟩ ⟨ya, yc, rfl, hkid'.ext hW⟩)
        have HNX : Hid (tg L k = tg M k → ∀ j, j < k + 1 → tg L j = tg M j) := Lib.hid (fun h j hj => by
          rcases Nat.lt_succ_iff_lt_or_eq.1 hj with h5 | h5
          · exact HC.out j h5
          · rw [h5]; exact h)
        have HNE : Hid (tg L k ≠ tg M k → decide (L = M) = false) := Lib.hid (fun h => decide_eq_false (fun e => h (by rw [e])))
        dsimp only [tV] at HIX
        clear hat hat' hkid hkid'
        obtain ⟨x, hx⟩ : ∃ x, tg L k = x := ⟨_, rfl⟩
        obtain ⟨y, hy⟩ : ∃ y, tg M k = y := ⟨_, rfl⟩
        rw [hx] at q0 q1 q2 HIX HNX HNE
        rw [hy] at p0 p1 p2 HIX HNX HNE
        clear hx hy HC
        rw [← Nat.add_assoc] at q1 q2 p1 p2
        have hA := (Upd.refl (fun _ => False) wr).alloc (.cells #[.string x.name, .string x.sort, .slice xa x.kids.length xc] 24)
        have p0 := hA.cell p0 (fun h => h)
        have p1 := hA.cell p1 (fun h => h)
        have p2 := hA.cell p2 (fun h => h)
        have HZ := Lib.hid (hA.alloc (.cells #[.string y.name, .string y.sort, .slice ya y.kids.length yc] 24))
        have HA := Lib.hid (allocOld (alloc0 wr (.cells #[.string x.name, .string x.sort, .slice xa x.kids.length xc] 24)) (.cells #[.string y.name, .string y.sort, .slice ya y.kids.length yc] 24))
        have HB := Lib.hid (alloc_at (wr.alloc (.cells #[.string x.name, .string x.sort, .slice xa x.kids.length xc] 24)) (.cells #[.string y.name, .string y.sort, .slice ya y.kids.length yc] 24) (n := wr.heap.size + 1) (by simp))
        have a0 := cellRow HA.out 0 (.string x.name) rfl
        have a1 := cellRow HA.out 1 (.string x.sort) rfl
        have a2 := cellRow HA.out 2 (.slice xa x.kids.length xc) rfl
        have b0 := cellRow HB.out 0 (.string y.name) rfl
        have b1 := cellRow HB.out 1 (.string y.sort) rfl
        have b2 := cellRow HB.out 2 (.slice ya y.kids.length yc) rfl
        clear hA HA HB
        go_wp2_with fail
        refine (HIX.out _ HZ.out).mono ?_
        rintro e w8 ⟨rfl, hw8⟩
        have HE8 := Lib.hid (HE.out.trans (HZ.out.trans hw8))
        obtain ⟨b, hb⟩ : ∃ b, decide (x = y) = b := ⟨_, rfl⟩
        rw [hb]
        have HBB := Lib.hid hb
        clear hw8 hb HIX HZ q0 q1 q2 p0 p1 p2 a0 a1 a2 b0 b1 b2
        cases b
        · have HV := Lib.hid (HNE.out (of_decide_eq_false HBB.out))
          go_wp2_with fail
          go_ret
          rw [HV.out]
          exact ⟨rfl, HE8.out⟩
        · have HN := Lib.hid (HNX.out (of_decide_eq_true HBB.out))
          have hlL := HL.out
          go_wp2_with fail
          go_roundg (L.length - (k + 1))
          case measure => omega
          case rel => exact ⟨k + 1, by go_num, rfl, by omega, HN, HE8⟩
      · obtain rfl : k = L.length := by omega
        have z2 : decide ((L.length : Int) < (L.length : Int)) = false := decide_eq_false (by omega)
        have HV : Hid (decide (L = M) = true) := Lib.hid (decide_eq_true (tg_ext H3.out HC.out))
        clear HC
        go_wp2_with fail
        go_ret
        rw [HV.out]
        exact ⟨rfl, HE.out⟩
  · have hz1 : ((L.length : Int) != (M.length : Int)) = true := by simp; exact fun e => hlen (Int.ofNat.inj e)
    have HV : Hid (decide (L = M) = false) := Lib.hid (decide_eq_false (fun e => hlen (by rw [e])))
    clear hlen
    go_enter Tryz.func190, Tryz.ntmps190
    go_wp2_with fail
    go_ret
    rw [HV.out]
    exact ⟨rfl, Upd.refl _ _⟩
set_option maxRecDepth 100000 in
set_option maxHeartbeats 2000000 in
theorem usame_x : ∀ (t u : Tm) (v v' : Value) (S T : Nat → Prop) (w : World), TmR S w t v → TmR T w u v' → t.size ≤ 1000000 →
    Calls Tryz.prog 134 #[v, v'] w fun e w' => e = .returned (.bool (decide (t = u))) ∧ Ext w w' := by
  refine Tm.ind (fun n s L ih => ?_)
  intro u v v' S T w hR hR' hsz
  obtain ⟨m, r, M⟩ := u
  obtain ⟨aa, ca, rfl, hT⟩ := hR
  obtain ⟨ab, cb, rfl, hT'⟩ := hR'
  dsimp only [tV, Tm.name, Tm.sort, Tm.kids] at hT hT' ⊢
  have hlL : L.length ≤ 1000000 := by have h1 := length_le_sizes L; have h2 := hsz; rw [size_eq] at h2; exact Nat.le_trans h1 (Nat.le_of_succ_le h2)
  have HC := Lib.hid (fun W (hW : Ext w W) => ueqf_x L M _ _ S T W (hT.ext hW) (hT'.ext hW) hlL (fun t ht u v1 v2 W' hW' h1 h2 => ih t ht u v1 v2 S T W' h1 h2 (by have h1 := size_mem ht; have h2 := hsz; rw [size_eq] at h2; exact Nat.le_trans h1 (Nat.le_of_succ_le h2))))
  have HZ := Lib.hid (((Upd.refl (fun _ => False) w).alloc (.cells #[.string n, .string s, .slice aa L.length ca] 24)).alloc (.cells #[.string m, .string r, .slice ab M.length cb] 24))
  have HA := Lib.hid (allocOld (alloc0 w (.cells #[.string n, .string s, .slice aa L.length ca] 24)) (.cells #[.string m, .string r, .slice ab M.length cb] 24))
  have HB := Lib.hid (alloc_at (w.alloc (.cells #[.string n, .string s, .slice aa L.length ca] 24)) (.cells #[.string m, .string r, .slice ab M.length cb] 24) (n := w.heap.size + 1) (by simp))
  have a0 := cellRow HA.out 0 (.string n) rfl
  have a1 := cellRow HA.out 1 (.string s) rfl
  have a2 := cellRow HA.out 2 (.slice aa L.length ca) rfl
  have b0 := cellRow HB.out 0 (.string m) rfl
  have b1 := cellRow HB.out 1 (.string r) rfl
  have b2 := cellRow HB.out 2 (.slice ab M.length cb) rfl
  have hz : decide (Tm.mk n s L = .mk m r M) = (decide (n = m) && (decide (s = r) && decide (L = M))) := by
    rw [Bool.eq_iff_iff]; simp
  rw [hz]
  clear hz hT hT' ih hsz
  by_cases h1 : n = m
  · have t1 : (n.toList == m.toList) = true := by rw [h1]; simp
    have d1 : decide (n = m) = true := decide_eq_true h1
    rw [d1]
    clear h1 d1
    by_cases h2 : s = r
    · have t2 : (s.toList == r.toList) = true := by rw [h2]; simp
      have d2 : decide (s = r) = true := decide_eq_true h2
      rw [d2]
      clear h2 d2
      generalize decide (L = M) = Z at *
      go_enter Tryz.func134, Tryz.ntmps134
      go_wp2_with fail
      refine (HC.out _ HZ.out).mono ?_
      rintro e w4 ⟨rfl, hw4⟩
      have H4 := Lib.hid (HZ.out.trans hw4)
      clear hw4 a0 a1 a2 b0 b1 b2
      go_wp2_with fail
      go_ret
      exact ⟨rfl, H4.out⟩
    · have t2 : (s.toList == r.toList) = false := by rw [beq_eq_false_iff_ne]; exact fun e => h2 (ba_list (by rw [Lib.toList_data, Lib.toList_data] at e; exact e))
      have d2 : decide (s = r) = false := decide_eq_false h2
      rw [d2]
      clear h2 d2
      go_enter Tryz.func134, Tryz.ntmps134
      go_wp2_with fail
      go_ret
      exact ⟨rfl, HZ.out⟩
  · have t1 : (n.toList == m.toList) = false := by rw [beq_eq_false_iff_ne]; exact fun e => h1 (ba_list (by rw [Lib.toList_data, Lib.toList_data] at e; exact e))
    have d1 : decide (n = m) = false := decide_eq_false h1
    rw [d1]
    clear h1 d1
    go_enter Tryz.func134, Tryz.ntmps134
    go_wp2_with fail
    go_ret
    exact ⟨rfl, HZ.out⟩


end Go.Proofs.YtlkcjmaiahnodaaGreatDoor

/- Clone and Delete. -/
namespace Go.Proofs.YtlkcjmaiahnodaaGreatDoor
open Go.RowKit Go.Hw Go
set_option linter.unusedVariables false
set_option linter.unusedSimpArgs false

open Tm
theorem ext_below {w w' : World} (h : Below w.heap.size w w') : Ext w w' := ⟨h.os, h.tape, h.output, h.size, fun k hk _ => h.block k hk⟩
theorem put_upd (w : World) (q blk off : Nat) (d : Array By) : Upd (fun k => k = blk) w (Sort.putRow Value.string (Sort.ahead w q) blk off d) := by
  refine ⟨rfl, rfl, rfl, ?_, fun k hk hf => ?_⟩
  · rw [Sort.size_putRow]; exact Nat.le_refl _
  · show ((Sort.ahead w q).heap.modify blk _)[k]? = _
    rw [Array.getElem?_modify, if_neg (fun e => hf e.symm)]
    rfl
end Go.Proofs.YtlkcjmaiahnodaaGreatDoor
