/- The texts Y14 Y15 N36, one behind the other. -/
import Derived.Test.YtjjaknmnhhfjeaaGreatDoorKAS
import Derived.Test.YtjjaknmnhhfjeaaGreatDoorKAI
import Derived.Test.YtjjaknmnhhfjeaaGreatDoorKAP
/- A term is read. -/
namespace Go.Proofs.YtjjaknmnhhfjeaaGreatDoor
open Go.RowKit Go.Hw Go
set_option linter.unusedVariables false
set_option linter.unusedSimpArgs false

open Tm
theorem Rd.keep {rb : Nat} {la : Option Addr} {lc : Nat} {S F : Nat → Prop} {l : List Tok} {W W' : World} {i : Nat} {b : Bool} (h : Rd rb la lc S l W i b) (hu : Upd F W W') (hr : ¬ F rb) (hS : ∀ k, S k → ¬ F k) : Rd rb la lc S l W' i b := ⟨hu.heap h.box hr, h.tk.kept hu hS, h.apart⟩
set_option maxRecDepth 100000 in
set_option maxHeartbeats 8000000 in
theorem term_x (rb : Nat) (la : Option Addr) (lc : Nat) (S : Nat → Prop) (l : List Tok) (hE : Ended l) (hl : l.length ≤ 1000000) : ∀ (n i : Nat) (b : Bool) (w : World), Rd rb la lc S l w i b → i < l.length → l.length - i ≤ n → (∀ k, S k → k < w.heap.size) →
    Calls Tryz.prog 77 #[.pointer (some ⟨rb, 0, none⟩)] w fun e w' => TmP rb la lc S l (if b = true then .bad i else pT l n i) e w w' := by
  intro n
  induction n with
  | zero => intro i b w _ hi hn; omega
  | succ n ih =>
  intro i b w hR hi hn hS
  have HR := Lib.hid hR
  have HSS := Lib.hid hS
  have HIH := Lib.hid ih
  have HEN := Lib.hid hE
  have hrbw : rb < w.heap.size := (Array.getElem?_eq_some_iff.1 hR.box).1
  obtain ⟨q, hq⟩ : ∃ q, (if b = true then PR.bad i else pT l (n + 1) i) = q := ⟨_, rfl⟩
  rw [hq]
  have HQ := Lib.hid hq
  obtain ⟨rx, hrx⟩ : ∃ rx, w.heap.size = rx := ⟨_, rfl⟩
  have HE0 := Lib.hid (((Upd.refl (fun _ => False) w).alloc (.cells #[.pointer (some ⟨rb, 0, none⟩)] 101)).alloc (.cells #[.string ⟨#[]⟩, .string ⟨#[]⟩, .slice none 0 0] 24))
  have HX0 := Lib.hid (allocOld (alloc0 w (.cells #[.pointer (some ⟨rb, 0, none⟩)] 101)) (.cells #[.string ⟨#[]⟩, .string ⟨#[]⟩, .slice none 0 0] 24))
  have HZ0 := Lib.hid (alloc_at (w.alloc (.cells #[.pointer (some ⟨rb, 0, none⟩)] 101)) (.cells #[.string ⟨#[]⟩, .string ⟨#[]⟩, .slice none 0 0] 24) (n := w.heap.size + 1) (by simp))
  have hsz0 : ((w.alloc (.cells #[.pointer (some ⟨rb, 0, none⟩)] 101)).alloc (.cells #[.string ⟨#[]⟩, .string ⟨#[]⟩, .slice none 0 0] 24)).heap.size = w.heap.size + 2 := by simp
  rw [hrx] at HX0
  rw [hrx] at HZ0
  have hs1 : (⟨#[58]⟩ : By) = sCl := rfl
  have x0 := cellRow HX0.out 0 (.pointer (some ⟨rb, 0, none⟩)) rfl
  have HR1 := Lib.hid (HR.out.ext HE0.out)
  clear hR hS ih hq
  go_enter Tryz.func77, Tryz.ntmps77
  go_upto_region 1 with fail
  try rw [hrx]
  generalize ((w.alloc (.cells #[.pointer (some ⟨rb, 0, none⟩)] 101)).alloc (.cells #[.string ⟨#[]⟩, .string ⟨#[]⟩, .slice none 0 0] 24)) = w1 at *
  have HNM := Lib.hid (name_x rb la lc S l i b w1 HR1.out hi hl)
  have HNF : Hid (nameF l i b = if b = false ∧ (tk l i).kind = 1 then ((tk l i).text, i + 1, false) else (nul, i, true)) := Lib.hid rfl
  obtain ⟨⟨nm, i2, b2⟩, hnf⟩ : ∃ p, nameF l i b = p := ⟨_, rfl⟩
  rw [hnf] at HNM HNF
  dsimp only at HNM
  clear hnf
  go_wp2_with fail
  refine HNM.out.mono ?_
  rintro e w3 ⟨rfl, hu3, hr3⟩
  dsimp only at hr3
  have HU3 := Lib.hid hu3
  have HR3 := Lib.hid hr3
  have HX3 := Lib.hid (hu3.heap HX0.out (by omega))
  have HZ3 := Lib.hid (hu3.heap HZ0.out (by omega))
  have hs3 := hu3.size
  clear hu3 hr3 HNM x0
  -- where it stands
  have HI2 : Hid (i2 < l.length ∧ (b2 = true → i2 = i ∧ q = .bad i ∧ nm = nul) ∧ (b2 = false → i2 = i + 1 ∧ b = false ∧ (tk l i).kind = 1 ∧ nm = (tk l i).text)) := Lib.hid (by
    have h1 := HNF.out
    have h2 := HQ.out
    by_cases hc : b = false ∧ (tk l i).kind = 1
    · rw [if_pos hc] at h1
      injection h1 with e1 e2
      injection e2 with e2 e3
      subst e1; subst e2; subst e3
      exact ⟨HEN.out.next hi (by omega), fun h => (by cases h), fun _ => ⟨rfl, hc.1, hc.2, rfl⟩⟩
    · rw [if_neg hc] at h1
      injection h1 with e1 e2
      injection e2 with e2 e3
      subst e1; subst e2; subst e3
      refine ⟨hi, fun _ => ⟨rfl, ?_, rfl⟩, fun h => (by cases h)⟩
      rw [← h2]
      by_cases hb : b = true
      · rw [if_pos hb]
      · rw [if_neg hb, pT, if_pos (fun h => hc ⟨by simpa using hb, h⟩)])
  obtain ⟨hi2, hbad, hgood⟩ := HI2.out
  have HBAD := Lib.hid hbad
  have HGOOD := Lib.hid hgood
  have x0 := cellRow HX3.out 0 (.pointer (some ⟨rb, 0, none⟩)) rfl
  have HE4 := Lib.hid ((Upd.refl (fun _ => False) w3).alloc (.cells #[.string nm, .string ⟨#[]⟩, .slice none 0 0] 24))
  have HT4 := Lib.hid (alloc0 w3 (.cells #[.string nm, .string ⟨#[]⟩, .slice none 0 0] 24))
  have HX4 := Lib.hid (allocOld HX3.out (.cells #[.string nm, .string ⟨#[]⟩, .slice none 0 0] 24))
  have HZ4 := Lib.hid (allocOld HZ3.out (.cells #[.string nm, .string ⟨#[]⟩, .slice none 0 0] 24))
  have HR4 := Lib.hid (HR3.out.ext HE4.out)
  have hs4 := alloc_size w3 (.cells #[.string nm, .string ⟨#[]⟩, .slice none 0 0] 24)
  clear hbad hgood HNF HI2
  go_upto_region 2 with fail
  obtain ⟨tb, htb⟩ : ∃ tb, w3.heap.size = tb := ⟨_, rfl⟩
  try rw [htb] at HT4
  try rw [htb]
  generalize w3.alloc (.cells #[.string nm, .string ⟨#[]⟩, .slice none 0 0] 24) = w4 at *
  have HU4 : Hid (Upd (fun k => k = rb) w w4) := Lib.hid ((((HE0.out.mono (fun _ _ h => h.elim)).trans HU3.out)).trans (HE4.out.mono (fun _ _ h => h.elim)))
  clear x0
  have x0 := cellRow HX4.out 0 (.pointer (some ⟨rb, 0, none⟩)) rfl
  have HIS := Lib.hid (is_x rb la lc S l i2 b2 sCl w4 HR4.out hi2 hl)
  obtain ⟨c, hc⟩ : ∃ c, (!b2 && isB (tk l i2) sCl) = c := ⟨_, rfl⟩
  rw [hc] at HIS
  have HC := Lib.hid hc
  clear hc
  go_wp2_with fail
  try rw [hs1]
  refine HIS.out.mono ?_
  rintro e w5 ⟨rfl, hw5⟩
  have HR5 := Lib.hid (HR4.out.ext hw5)
  have HX5 := Lib.hid (hw5.heap HX4.out (fun h => h))
  have HZ5 := Lib.hid (hw5.heap HZ4.out (fun h => h))
  have HT5 := Lib.hid (hw5.heap HT4.out (fun h => h))
  have HU5 : Hid (Upd (fun k => k = rb) w w5) := Lib.hid (HU4.out.trans (hw5.mono (fun _ _ h => h.elim)))
  have hs5 := hw5.size
  have H35 : Hid (Ext w3 w5) := Lib.hid (HE4.out.trans hw5)
  have HSS3 : Hid (∀ k, S k → k < w3.heap.size) := Lib.hid (fun k hk => by have := HSS.out k hk; omega)
  clear hw5 HIS x0
  have x0 := cellRow HX5.out 0 (.pointer (some ⟨rb, 0, none⟩)) rfl
  cases c
  case true =>
    -- a variable
    have hb2 : b2 = false := by have := HC.out; cases b2; rfl; simp at this
    subst hb2
    have HGG := Lib.hid (HGOOD.out rfl)
    have hcl : isB (tk l i2) sCl = true := by simpa using HC.out
    have hi3 := HEN.out.isB hi2 hcl
    have HQ2 : Hid (q = if (tk l (i + 2)).kind ≠ 1 then .bad (i + 2) else .ok (.mk (tk l i).text (tk l (i + 2)).text []) (i + 3)) := Lib.hid (by
      obtain ⟨hi2e, hbf, hk1, hnm⟩ := HGG.out
      rw [← HQ.out, if_neg (by rw [hbf]; decide), pT, if_neg (by rw [hk1]; simp), ← hi2e, if_pos hcl])
    have HBR := Lib.hid HR5.out.box
    have c0 := cellRow HBR.out 0 (.slice la l.length lc) rfl
    have c1 := cellRow HBR.out 1 (.int .i64 (i2 : Int)) rfl
    have c2 := cellRow HBR.out 2 (.bool false) rfl
    have fr := fun j => frozenRow HBR.out j
    have hw1 : IntKind.i64.wrap ((i2 : Int) + 1) = (i2 : Int) + 1 := IntWalk.i64_in _ (by omega)
    have hb := setBlock HBR.out 1 (.int .i64 ((i2 : Int) + 1))
    have hu := (Upd.refl (fun k => k = rb) w5).setCell (p := ⟨rb, 1, none⟩) (.inl rfl) (.int .i64 ((i2 : Int) + 1))
    have HR6 : Hid (Rd rb la lc S l (w5.setCell ⟨rb, 1, none⟩ (.int .i64 ((i2 : Int) + 1))) (i2 + 1) false) := Lib.hid (HR5.out.to hu (by simpa using hb))
    have HU6 := Lib.hid (HU5.out.trans hu)
    have HX6 := Lib.hid (hu.heap HX5.out (by omega))
    have HZ6 := Lib.hid (hu.heap HZ5.out (by omega))
    have HT6 := Lib.hid (hu.heap HT5.out (by omega))
    have hs6 := hu.size
    clear hb hu HC HBAD HGOOD
    go_upto_region 4 with fail
    generalize w5.setCell ⟨rb, 1, none⟩ (.int .i64 ((i2 : Int) + 1)) = w6 at *
    clear x0 c0 c1 c2 fr hw1
    have x0 := cellRow HX6.out 0 (.pointer (some ⟨rb, 0, none⟩)) rfl
    have HNM := Lib.hid (name_x rb la lc S l (i2 + 1) false w6 HR6.out hi3 hl)
    have HNF : Hid (nameF l (i2 + 1) false = if false = false ∧ (tk l (i2 + 1)).kind = 1 then ((tk l (i2 + 1)).text, i2 + 1 + 1, false) else (nul, i2 + 1, true)) := Lib.hid rfl
    obtain ⟨⟨so, i4, b4⟩, hnf⟩ : ∃ p, nameF l (i2 + 1) false = p := ⟨_, rfl⟩
    rw [hnf] at HNM HNF
    dsimp only at HNM
    have HM : Hid (∀ W', Rd rb la lc S l W' i4 b4 → TmM rb la lc S l q (.mk nm so []) W') := Lib.hid (fun W' h => by
      obtain ⟨hi2e, hbf, hk1, hnm⟩ := HGG.out
      have h1 := HNF.out
      unfold TmM
      rw [HQ2.out]
      by_cases hc : (tk l (i2 + 1)).kind = 1
      · rw [if_pos ⟨rfl, hc⟩] at h1
        injection h1 with e1 e2
        injection e2 with e2 e3
        subst e1; subst e2; subst e3
        rw [hi2e] at hc h
        have hc' : (tk l (i + 2)).kind = 1 := hc
        rw [if_neg (fun h => h hc')]
        exact ⟨by rw [hnm, hi2e], h⟩
      · rw [if_neg (fun h => hc h.2)] at h1
        injection h1 with e1 e2
        injection e2 with e2 e3
        subst e1; subst e2; subst e3
        rw [hi2e] at hc h
        have hc' : ¬ (tk l (i + 2)).kind = 1 := hc
        rw [if_pos hc']
        exact h)
    clear hnf HNF
    go_wp2_with fail
    refine HNM.out.mono ?_
    rintro e w7 ⟨rfl, hu7, hr7⟩
    dsimp only at hr7
    have HU7 := Lib.hid (HU6.out.trans hu7)
    have HR7 := Lib.hid hr7
    have HT7 := Lib.hid (hu7.heap HT6.out (by omega))
    have HZ7 := Lib.hid (hu7.heap HZ6.out (by omega))
    have hs7 := hu7.size
    clear hu7 hr7 HNM x0
    have t1 := cellRow HT7.out 1 (.string ⟨#[]⟩) rfl
    have ft := fun j => frozenRow HT7.out j
    go_upto_region 5 with fail
    have hbt := setBlock HT7.out 1 (.string so)
    have hut := (Upd.refl (fun k => k = tb) w7).setCell (p := ⟨tb, 1, none⟩) (.inl rfl) (.string so)
    have HT8 : Hid ((w7.setCell ⟨tb, 1, none⟩ (.string so)).heap[tb]? = some (.cells #[.string nm, .string so, .slice none 0 0] 24 (0, 0))) := Lib.hid (by simpa using hbt)
    have HZ8 := Lib.hid (hut.heap HZ7.out (by omega))
    have HUT := Lib.hid hut
    generalize w7.setCell ⟨tb, 1, none⟩ (.string so) = w8 at *
    have hs8 := hut.size
    clear t1 ft hbt hut
    have t0 := cellRow HT8.out 0 (.string nm) rfl
    have t1 := cellRow HT8.out 1 (.string so) rfl
    have t2 := cellRow HT8.out 2 (.slice none 0 0) rfl
    have z0 := cellRow HZ8.out 0 (.string ⟨#[]⟩) rfl
    have z1 := cellRow HZ8.out 1 (.string ⟨#[]⟩) rfl
    have z2 := cellRow HZ8.out 2 (.slice none 0 0) rfl
    have fz := fun j => frozenRow HZ8.out j
    go_wp2_with fail
    have hr3 := st3_heap HZ8.out (.string nm) (.string so) (.slice none 0 0)
    have hu3 := st3_upd' w8 (rx + 1) (.string nm) (.string so) (.slice none 0 0)
    have e0 := cellRow hr3 0 _ rfl
    have e1 := cellRow hr3 1 _ rfl
    have e2 := cellRow hr3 2 _ rfl
    refine bodyPost_ret (v := .agg #[.string nm, .string so, .slice none 0 0]) (by simp [results, Tryz.results77, go_sem, e0, e1, e2]) rfl ?_
    have hup := (HU7.out.trans' HUT.out (fun j hj e => by omega)).trans' hu3 (fun j hj e => by omega)
    have hrd := (HR7.out.keep HUT.out (by omega) (fun k hk e => by have := HSS.out k hk; omega)).keep hu3 (by omega) (fun k hk e => by have := HSS.out k hk; omega)
    exact ⟨.mk nm so [], .slice none 0 0, fun _ => False, rfl, TlO.nil _ _ _, fun j h => h.elim, hup, HM.out _ hrd⟩
  -- an operation
  have HC2 : Hid (b2 = false → isB (tk l i2) sCl = false) := Lib.hid (fun h => by have := HC.out; rw [h] at this; simpa using this)
  have HKT : Hid (KT rb la lc S l tb rx (tb + 1) nm w3 [] i2 b2 w5) := Lib.hid ⟨HR5.out, ⟨_, [], fun _ _ => False, HT5.out, ⟨rfl, ⟨rfl, .inl ⟨rfl, rfl⟩⟩, fun i hi => absurd hi (Nat.not_lt_zero _), fun i j hi => absurd hi (Nat.not_lt_zero _), fun i i' j hi => absurd hi (Nat.not_lt_zero _)⟩⟩, HX5.out, by omega, H35.out.mono (fun _ _ h => h.elim), by simp⟩
  have HKT2 : Hid (b2 = false → i + 1 ≤ i2) := Lib.hid (fun h => by have := (HGOOD.out h).1; omega)
  have hpart : ∀ xs j W (r : PR Tm), KT rb la lc S l tb rx (tb + 1) nm w3 xs j false W → i + 1 ≤ j → ElP (KT rb la lc S l tb rx (tb + 1) nm w3) xs r W → (∀ x k, r = .ok x k → j < k) → ElP (fun xs j b W => KT rb la lc S l tb rx (tb + 1) nm w3 xs j b W ∧ (b = false → i + 1 ≤ j)) xs r W := fun xs j W r _ hj h hk => by
    cases r with
    | ok x k => exact ⟨h, fun _ => by have := hk x k rfl; omega⟩
    | bad k => obtain ⟨ys, hy⟩ := h; exact ⟨ys, hy, fun h => by cases h⟩
  have HLIST := Lib.hid (list111_x (pT l n) (fun xs j b W => KT rb la lc S l tb rx (tb + 1) nm w3 xs j b W ∧ (b = false → i + 1 ≤ j)) (fun xs j W => KT rb la lc S l tb rx (tb + 1) nm w3 xs j true W ∧ xs.length ≤ j ∧ i + 1 ≤ j) rb la lc S l tb rx HEN.out (pT_fwd HEN.out n) hl
    (fun xs i b W h => h.1.rd) (fun xs j b W W' j' b' h h1 h2 hu hr => ⟨h.1.to (by omega) (by omega) (by omega) h1 h2 hu hr, fun hb' => by
      have hb : b = false := by cases b with | false => rfl | true => rw [h2 rfl] at hb'; cases hb'
      have := h.2 hb; omega⟩)
    (fun xs j W W' h hu hr => ⟨h.1.to (by omega) (by omega) (by omega) (Nat.le_refl _) (fun h => by cases h) hu hr, by have := h.1.ln; simpa using this, h.2 rfl⟩)
    (fun xs j W h hj => by
      have hij := h.2 rfl
      have hfw := pT_fwd HEN.out n j hj
      refine (part_x rb la lc S l tb rx (tb + 1) nm w3 hl (by omega) (by omega) (by omega) (by omega) (by omega) (by omega) (by omega) (by omega) HSS3.out xs j false W (pT l n j) h.1 hj (by have := h.1.ln; simpa using this) (by omega) (fun x k e => hfw.2.2 x k e) (fun k e => by have := hfw.1; rw [e] at this; exact this) (fun W2 hW2 => by
          have h9 := HIH.out j false W2 (h.1.rd.ext hW2) hj (by omega) (fun k hk => Nat.lt_of_lt_of_le (HSS3.out k hk) (Nat.le_trans h.1.up.size hW2.size))
          rw [if_neg (by decide)] at h9
          exact h9)).mono (fun e W' he => ⟨he.1, ?_⟩)
      have h9 := he.2
      cases hp : pT l n j with
      | ok x k => rw [hp] at h9; exact ⟨h9, fun _ => by have := hfw.2.2 x k hp; omega⟩
      | bad k => rw [hp] at h9; obtain ⟨ys, hy⟩ := h9; exact ⟨ys, hy, fun h => by cases h⟩)
    (fun xs j W h hj => by
      refine (part_x rb la lc S l tb rx (tb + 1) nm w3 hl (by omega) (by omega) (by omega) (by omega) (by omega) (by omega) (by omega) (by omega) HSS3.out xs j true W (.bad j) h.1 hj h.2.1 (by omega) (fun x k e => by cases e) (fun k e => by injection e with e; omega) (fun W2 hW2 => by
          have h9 := HIH.out j true W2 (h.1.rd.ext hW2) hj (by have := h.2.2; omega) (fun k hk => Nat.lt_of_lt_of_le (HSS3.out k hk) (Nat.le_trans h.1.up.size hW2.size))
          rw [if_pos rfl] at h9
          exact h9)).mono (fun e W' he => ⟨he.1, ?_⟩)
      obtain ⟨ys, hy⟩ := he.2
      exact ⟨ys, hy, fun h => by cases h⟩)
    i2 b2 w5 ⟨HKT.out, HKT2.out⟩ hi2)
  clear hpart
  have HFIN : Hid (∀ W', LsP (fun xs j b W => KT rb la lc S l tb rx (tb + 1) nm w3 xs j b W ∧ (b = false → i + 1 ≤ j)) (if b2 = true then .bad i2 else pP (pT l n) l i2) W' → ∃ ys j bb, KT rb la lc S l tb rx (tb + 1) nm w3 ys j bb W' ∧ ∀ W'', Rd rb la lc S l W'' j bb → TmM rb la lc S l q (.mk nm nul ys) W'') := Lib.hid (fun W' h => by
    cases b2 with
    | true =>
      obtain ⟨e1, e2, e3⟩ := HBAD.out rfl
      rw [if_pos rfl] at h
      obtain ⟨ys, hy, _⟩ := h
      refine ⟨ys, i2, true, hy, fun W'' hr => ?_⟩
      unfold TmM
      rw [e2]
      rw [e1] at hr
      exact hr
    | false =>
      obtain ⟨hi2e, hbf, hk1, hnm⟩ := HGOOD.out rfl
      rw [if_neg (by decide)] at h
      have HQ2 : q = match pP (pT l n) l (i + 1) with | .bad j => .bad j | .ok L j => .ok (.mk (tk l i).text nul L) j := by
        rw [← HQ.out, if_neg (by rw [hbf]; decide), pT, if_neg (by rw [hk1]; simp), ← hi2e, if_neg (by rw [HC2.out rfl]; decide)]
        cases pP (pT l n) l i2 <;> rfl
      rw [hi2e] at h
      cases hp : pP (pT l n) l (i + 1) with
      | ok L j =>
        rw [hp] at h HQ2
        refine ⟨L, j, false, h.1, fun W'' hr => ?_⟩
        unfold TmM
        rw [HQ2]
        exact ⟨by rw [hnm], hr⟩
      | bad j =>
        rw [hp] at h HQ2
        obtain ⟨ys, hy, _⟩ := h
        refine ⟨ys, j, true, hy, fun W'' hr => ?_⟩
        unfold TmM
        rw [HQ2]
        exact hr)
  obtain ⟨Q, hQ⟩ : ∃ Q, (if b2 = true then PR.bad i2 else pP (pT l n) l i2) = Q := ⟨_, rfl⟩
  rw [hQ] at HLIST HFIN
  clear hQ HC HC2 HBAD HGOOD HKT HKT2
  go_wp2_with fail
  refine HLIST.out.mono ?_
  rintro e w7 ⟨rfl, hP⟩
  obtain ⟨ys, j, bb, hk7, hm7⟩ := HFIN.out w7 hP
  obtain ⟨lv, us, Bk, htb7, hcp7⟩ := hk7.tbx
  obtain ⟨ya, yc, hlv⟩ := own_shape hcp7.own
  subst hlv
  have HT7 := Lib.hid htb7
  have HK7 := Lib.hid hk7
  have HM7 := Lib.hid hm7
  have HTO := Lib.hid hcp7.fin
  have HZ7 : Hid (w7.heap[(rx + 1)]? = some (.cells #[.string ⟨#[]⟩, .string ⟨#[]⟩, .slice none 0 0] 24 (0, 0))) := Lib.hid (HK7.out.up.heap HZ3.out (fun e => by rcases e with e | e <;> omega))
  have hs7 := HK7.out.up.size
  clear hP htb7 hcp7 hk7 hm7 HLIST HFIN x0
  have t0 := cellRow HT7.out 0 (.string nm) rfl
  have t1 := cellRow HT7.out 1 (.string nul) rfl
  have t2 := cellRow HT7.out 2 (.slice ya ys.length yc) rfl
  have z0 := cellRow HZ7.out 0 (.string ⟨#[]⟩) rfl
  have z1 := cellRow HZ7.out 1 (.string ⟨#[]⟩) rfl
  have z2 := cellRow HZ7.out 2 (.slice none 0 0) rfl
  have fz := fun j => frozenRow HZ7.out j
  go_wp2_with fail
  have hr3 := st3_heap HZ7.out (.string nm) (.string nul) (.slice ya ys.length yc)
  have hu3 := st3_upd' w7 (rx + 1) (.string nm) (.string nul) (.slice ya ys.length yc)
  have e0 := cellRow hr3 0 _ rfl
  have e1 := cellRow hr3 1 _ rfl
  have e2 := cellRow hr3 2 _ rfl
  refine bodyPost_ret (v := .agg #[.string nm, .string nul, .slice ya ys.length yc]) (by simp [results, Tryz.results77, go_sem, e0, e1, e2]) rfl ?_
  have hup : Upd (fun k => k = rb) w _ := ((((HE0.out.mono (fun _ _ h => h.elim)).trans HU3.out)).trans' HK7.out.up (fun j hj e => by
    rcases e with e | e
    · exact e
    · omega)).trans' hu3 (fun j hj e => by omega)
  have hrd := HK7.out.rd.keep hu3 (by omega) (fun k hk e => by have := HSS.out k hk; omega)
  have hto := HTO.out.kept hu3 (fun k hk e => by have := hk.1; omega)
  have hs9 := hu3.size
  exact ⟨.mk nm nul ys, .slice ya ys.length yc, _, rfl, hto, fun k hk => ⟨by have := hk.1; omega, by have := hk.2; omega⟩, hup, HM7.out _ hrd⟩

end Go.Proofs.YtjjaknmnhhfjeaaGreatDoor

/- end and Parse of the program. -/
namespace Go.Proofs.YtjjaknmnhhfjeaaGreatDoor
open Go.RowKit Go.Hw Go
set_option linter.unusedVariables false
set_option linter.unusedSimpArgs false

open Tm
theorem tkF_ended (wd : By → Wd) (hwd : ∀ x, (wd x).kind ≠ 5) (s : By) : ∀ (n i ln bg : Nat) (l l' : List Tok), (∀ t ∈ l, t.kind ≠ 5) → tkF wd s n i ln bg l = .ok l' → Ended l' ∧ l'.length ≤ l.length + n + 1 := by
  have hfin : ∀ (l : List Tok) (t : Tok), (∀ t ∈ l, t.kind ≠ 5) → t.kind = 5 → Ended (l ++ [t]) := fun l t h ht => by
    have hlen : (l ++ [t]).length = l.length + 1 := by simp
    refine ⟨by omega, ?_, fun i hi => ?_⟩
    · rw [hlen, Nat.add_sub_cancel]
      unfold tk
      rw [List.getD_eq_getElem?_getD, List.getElem?_append_right (Nat.le_refl _), Nat.sub_self]
      exact ht
    · rw [hlen, Nat.add_sub_cancel] at hi
      unfold tk
      rw [List.getD_eq_getElem?_getD, List.getElem?_append_left hi, List.getElem?_eq_getElem hi]
      exact h _ (List.getElem_mem hi)
  have hsn : ∀ (l : List Tok) (t : Tok), (∀ t ∈ l, t.kind ≠ 5) → t.kind ≠ 5 → ∀ x ∈ l ++ [t], x.kind ≠ 5 := fun l t h ht x hx => by
    rcases List.mem_append.1 hx with h1 | h1
    · exact h x h1
    · rw [List.mem_singleton.1 h1]; exact ht
  intro n
  induction n with
  | zero =>
    intro i ln bg l l' h e
    rw [tkF] at e
    injection e with e
    subst e
    exact ⟨hfin _ _ h rfl, by simp⟩
  | succ n ih =>
    intro i ln bg l l' h e
    rw [tkF] at e
    split at e
    · injection e with e
      subst e
      exact ⟨hfin _ _ h rfl, by rw [List.length_append, List.length_singleton]; omega⟩
    split at e
    · split at e
      · have := ih _ _ _ _ _ h e; exact ⟨this.1, by omega⟩
      · have := ih _ _ _ _ _ h e; exact ⟨this.1, by omega⟩
    split at e
    · have := ih _ _ _ _ _ h e; exact ⟨this.1, by omega⟩
    split at e
    · split at e
      · have := ih _ _ _ _ _ (hsn _ _ h (hwd _)) e
        rw [List.length_append, List.length_singleton] at this
        exact ⟨this.1, by omega⟩
      · cases e
    split at e
    · cases e
    · have := ih _ _ _ _ _ (hsn _ _ h (by simp)) e
      rw [List.length_append, List.length_singleton] at this
      exact ⟨this.1, by omega⟩
theorem wdF_kind (iF : By → Int × Bool) (x : By) : (wdF iF x).kind ≠ 5 := by
  unfold wdF
  split
  · simp
  · split <;> simp
theorem tok_ended {iF : By → Int × Bool} {s : By} {l : List Tok} (h : tokF (wdF iF) s = .ok l) : Ended l ∧ l.length ≤ 65537 := by
  unfold tokF at h
  split at h
  · cases h
  · rename_i hs
    have := tkF_ended (wdF iF) (wdF_kind iF) s s.size 0 1 0 [] l (fun t ht => by cases ht) h
    exact ⟨this.1, by have := this.2; simp at this; omega⟩
set_option maxRecDepth 100000 in
set_option maxHeartbeats 4000000 in
theorem end_x (rb : Nat) (la : Option Addr) (lc : Nat) (S : Nat → Prop) (l : List Tok) (i : Nat) (w : World) (hR : Rd rb la lc S l w i false) (hi : i < l.length) (hl : l.length ≤ 1000000) (hk : (tk l i).kind = 5) :
    Calls Tryz.prog 64 #[.pointer (some ⟨rb, 0, none⟩)] w fun e w' => e = .returned (.tuple #[.agg #[.int .i64 0, .int .i64 0], .int .i64 0]) ∧ Ext w w' := by
  obtain ⟨gg, off, hga, hSg, hat⟩ := (TkR.at_ hR.tk (Nat.lt_of_le_of_lt (Nat.zero_le _) hi)).2
  subst hga
  obtain ⟨q0, q1, q2, q3, q4⟩ := hat i hi
  have HR := Lib.hid hR
  obtain ⟨⟨kd, tx, tn, tl, tc⟩, ht⟩ : ∃ t, tk l i = t := ⟨_, rfl⟩
  rw [ht] at q0 q1 q2 q3 q4
  try rw [ht]
  have i0 : (0 : Int) ≤ (i : Int) := by omega
  have i1 : (i : Int) < (l.length : Int) := by omega
  dsimp only at q0 q1 q2 q3 q4
  clear hat hR
  rw [ht] at hk
  dsimp only at hk
  subst hk
  clear ht
  have HE0 := Lib.hid ((Upd.refl (fun _ => False) w).alloc (.cells #[.int .i64 0, .int .i64 0] 45))
  have HP0 := Lib.hid (alloc0 w (.cells #[.int .i64 0, .int .i64 0] 45))
  have HBR0 := Lib.hid (HE0.out.heap HR.out.box (fun h => h))
  obtain ⟨rp, hrp⟩ : ∃ x, w.heap.size = x := ⟨_, rfl⟩
  rw [hrp] at HP0
  have hs0 := alloc_size w (.cells #[.int .i64 0, .int .i64 0] 45)
  go_enter Tryz.func64, Tryz.ntmps64
  go_upto_region 1 with fail
  try rw [hrp]
  have q0 := HE0.out.cell q0 (fun h => h)
  have q1 := HE0.out.cell q1 (fun h => h)
  have q2 := HE0.out.cell q2 (fun h => h)
  have q3 := HE0.out.cell q3 (fun h => h)
  have q4 := HE0.out.cell q4 (fun h => h)
  obtain ⟨w1, hw1⟩ : ∃ w1, w1 = w.alloc (.cells #[.int .i64 0, .int .i64 0] 45) := ⟨_, rfl⟩
  rw [← hw1] at HE0 HP0 HBR0 q0 q1 q2 q3 q4 hs0 ⊢
  have HBR := HBR0
  clear hw1 HR
  have X0 := fun x : XW w1 => cellRow (x.ext.heap HBR.out (fun h => h)) 0 (.slice (some ⟨gg, off, none⟩) l.length lc) rfl
  have X1 := fun x : XW w1 => cellRow (x.ext.heap HBR.out (fun h => h)) 1 (.int .i64 (i : Int)) rfl
  have X2 := fun x : XW w1 => x.ext.cell q0 (fun h => h)
  have X3 := fun x : XW w1 => x.ext.cell q1 (fun h => h)
  have X4 := fun x : XW w1 => x.ext.cell q2 (fun h => h)
  have X5 := fun x : XW w1 => x.ext.cell q3 (fun h => h)
  have X6 := fun x : XW w1 => x.ext.cell q4 (fun h => h)
  refine wp_region_par (α := Nat) 11 [(11, 2)] [[], [0], [0, 1], [0, 1, 2], [], [4], [4, 5], [4, 5, 6], [0, 1, 2, 3, 4, 5, 6, 7], [0, 1, 2, 3, 4, 5, 6, 7, 8], [], [0, 1, 2, 3, 4, 5, 6, 7, 8, 9, 10]]
    [none, none, none, none, none, none, none, none, none, none, some (annTk w1.heap.size)] [false, false, false, false, false, false, false, false, false, false, true] (by kernel_rfl) (by kernel_rfl) rfl (fun _ _ d _ _ h => by cases d <;> exact h) ?_
  simp only [List.take_succ_cons, List.take_zero, pickO, List.getElem?_cons_zero, List.getElem?_cons_succ]
  iterate 10 (refine can_pure0 rfl (fun K hK => ?_); go_simp; refine hK _ ?_; clear hK K)
  refine can_mem _ rfl (by go_simp) (fun W hW hG K hK => ?_) (fun K x hK => ?_)
  · go_simp
    exact hK W.heap.size _ ((Upd.refl (fun _ => False) W).alloc _) ⟨hW.size, alloc0 _ _⟩
  refine hK _ ?_; clear hK K
  dsimp only [annTk]
  refine can_end (fun W hW hG => ?_)
  obtain ⟨hxs, hxb⟩ := hG _ (List.mem_singleton.2 rfl)
  have HBX := Lib.hid hxb
  have HWW := Lib.hid hW
  have z0 := cellRow hxb 0 (.int .i64 0) rfl
  have z1 := cellRow hxb 1 (.string ⟨#[]⟩) rfl
  have z2 := cellRow hxb 2 (.int .i64 0) rfl
  have z3 := cellRow hxb 3 (.int .i64 0) rfl
  have z4 := cellRow hxb 4 (.int .i64 0) rfl
  have fz := fun j => frozenRow hxb j
  clear hG hxb hW X0 X1 X2 X3 X4 X5 X6
  refine mix_two ?_
  intro K hK
  go_simp
  refine hK _ _ ?_
  clear hK K
  have hrx := st5_heap HBX.out (.int .i64 5) (.string tx) (.int .i64 tn) (.int .i64 tl) (.int .i64 tc)
  have hux := st5_upd W x (.int .i64 5) (.string tx) (.int .i64 tn) (.int .i64 tl) (.int .i64 tc)
  have HRX := Lib.hid hrx
  have HUX := Lib.hid hux
  clear hrx hux z0 z1 z2 z3 z4 fz
  generalize (((((W.setCell ⟨x, 0, none⟩ (.int .i64 5)).setCell ⟨x, 1, none⟩ (.string tx)).setCell ⟨x, 2, none⟩ (.int .i64 tn)).setCell ⟨x, 3, none⟩ (.int .i64 tl)).setCell ⟨x, 4, none⟩ (.int .i64 tc)) = w5 at *
  have HE5 : Hid (Ext w1 w5) := Lib.hid (HWW.out.trans' HUX.out (fun j hj e => by omega))
  have k0 := cellRow HRX.out 0 (.int .i64 5) rfl
  have k1 := cellRow HRX.out 1 (.string tx) rfl
  have k2 := cellRow HRX.out 2 (.int .i64 tn) rfl
  have k3 := cellRow HRX.out 3 (.int .i64 tl) rfl
  have k4 := cellRow HRX.out 4 (.int .i64 tc) rfl
  simp only [wpMix]
  have HB5 := Lib.hid (HE5.out.heap HBR.out (fun h => h))
  have HP5 := Lib.hid (HE5.out.heap HP0.out (fun h => h))
  have HF := Lib.hid (HE0.out.trans HE5.out)
  have c0 := cellRow HB5.out 0 (.slice (some ⟨gg, off, none⟩) l.length lc) rfl
  have c1 := cellRow HB5.out 1 (.int .i64 (i : Int)) rfl
  have c2 := cellRow HB5.out 2 (.bool false) rfl
  have p0 := cellRow HP5.out 0 (.int .i64 0) rfl
  have p1 := cellRow HP5.out 1 (.int .i64 0) rfl
  have fp := fun j => frozenRow HP5.out j
  clear HBX HWW HUX HE5 q0 q1 q2 q3 q4
  go_wp2_with fail
  have hr2 := st2_heap HP5.out (.int .i64 0) (.int .i64 0)
  have hu2 := st2_upd w5 rp (.int .i64 0) (.int .i64 0)
  have e0 := cellRow hr2 0 _ rfl
  have e1 := cellRow hr2 1 _ rfl
  refine bodyPost_ret (v := .tuple #[.agg #[.int .i64 0, .int .i64 0], .int .i64 0]) (by simp [results, Tryz.results64, go_sem, e0, e1]) rfl ?_
  exact ⟨rfl, HF.out.trans' hu2 (fun j hj e => by omega)⟩
set_option maxRecDepth 100000 in
set_option maxHeartbeats 8000000 in
theorem parse_ok_x (iF : By → Int × Bool) (s : By) (l : List Tok) (t : Tm) (j : Nat) (w : World) (htab : AscT w) (hwd : ∀ i k W, i < k → k ≤ s.size → (∀ j, i ≤ j → j < k → 2 ≤ clsN (byt s j)) → Ext w W → Calls Tryz.prog 99 #[.string (s.extract i k)] W fun e W' => WdR (wdF iF (s.extract i k)) e ∧ Ext W W')
    (h1 : tokF (wdF iF) s = .ok l) (h2 : pT l l.length 0 = .ok t j) (h3 : (tk l j).kind = 5) (h4 : formed nmB t = true) (h5 : (sortsT t).isSome = true) :
    Calls Tryz.prog 25 #[.string s] w fun e w' => ∃ u, e = .returned (.tuple #[tV t u, .agg #[.int .i64 0, .int .i64 0], .int .i64 0]) ∧ TlR (fun k => w.heap.size ≤ k ∧ k < w'.heap.size) w' t.kids u ∧ Ext w w' := by
  obtain ⟨hen, hll⟩ := tok_ended h1
  have hl0 := hen.pos
  have hjl := (pT_fwd hen l.length 0 hl0).2.1
  rw [h2] at hjl
  have hjl : j < l.length := hjl
  have hsz := pT_size _ _ _ _ h2
  have HEN := Lib.hid hen
  have HK5 := Lib.hid h3
  have HP := Lib.hid h2
  have HTAB := Lib.hid htab
  have HE0 := Lib.hid (((Upd.refl (fun _ => False) w).alloc (.cells #[.string ⟨#[]⟩, .string ⟨#[]⟩, .slice none 0 0] 24)).alloc (.cells #[.int .i64 0, .int .i64 0] 45))
  have HZ0 := Lib.hid (allocOld (alloc0 w (.cells #[.string ⟨#[]⟩, .string ⟨#[]⟩, .slice none 0 0] 24)) (.cells #[.int .i64 0, .int .i64 0] 45))
  have HQ0 := Lib.hid (alloc_at (w.alloc (.cells #[.string ⟨#[]⟩, .string ⟨#[]⟩, .slice none 0 0] 24)) (.cells #[.int .i64 0, .int .i64 0] 45) (n := w.heap.size + 1) (by simp))
  have hs0 : ((w.alloc (.cells #[.string ⟨#[]⟩, .string ⟨#[]⟩, .slice none 0 0] 24)).alloc (.cells #[.int .i64 0, .int .i64 0] 45)).heap.size = w.heap.size + 2 := by simp
  obtain ⟨b0, hb0⟩ : ∃ x, w.heap.size = x := ⟨_, rfl⟩
  rw [hb0] at HZ0 HQ0
  have HTO := Lib.hid (tokens_x iF s ((w.alloc (.cells #[.string ⟨#[]⟩, .string ⟨#[]⟩, .slice none 0 0] 24)).alloc (.cells #[.int .i64 0, .int .i64 0] 45)) (asc_ext htab HE0.out) (fun i k W a b c hW => hwd i k W a b c (HE0.out.trans hW)))
  rw [h1] at HTO
  have hfm := h4
  clear hwd h1 h2 h3 htab hen
  go_enter Tryz.func25, Tryz.ntmps25
  go_wp2_with fail
  try rw [hb0]
  generalize ((w.alloc (.cells #[.string ⟨#[]⟩, .string ⟨#[]⟩, .slice none 0 0] 24)).alloc (.cells #[.int .i64 0, .int .i64 0] 45)) = w1 at *
  refine HTO.out.mono ?_
  rintro e w2 ⟨⟨v, rfl, hTk⟩, hw2⟩
  obtain ⟨la, lc, hv⟩ := SlR.shape hTk
  subst hv
  have HTK := Lib.hid hTk
  have HW2 := Lib.hid (HE0.out.trans hw2)
  have HX2 := Lib.hid hw2
  have HZ2 := Lib.hid (hw2.heap HZ0.out (fun h => h))
  have HQ2 := Lib.hid (hw2.heap HQ0.out (fun h => h))
  have hs2 := hw2.size
  clear hw2 hTk HTO
  have HB3 := Lib.hid (alloc0 (w2.alloc (.cells #[.int .i64 0, .int .i64 0] 45)) (.cells #[.slice la l.length lc, .int .i64 0, .bool false] 103))
  have HE3 := Lib.hid (((Upd.refl (fun _ => False) w2).alloc (.cells #[.int .i64 0, .int .i64 0] 45)).alloc (.cells #[.slice la l.length lc, .int .i64 0, .bool false] 103))
  have hs3 : ((w2.alloc (.cells #[.int .i64 0, .int .i64 0] 45)).alloc (.cells #[.slice la l.length lc, .int .i64 0, .bool false] 103)).heap.size = w2.heap.size + 2 := by simp
  go_upto_region 5 with fail
  obtain ⟨rb, hrb⟩ : ∃ x, w2.heap.size + 1 = x := ⟨_, rfl⟩
  rw [show (w2.alloc (.cells #[.int .i64 0, .int .i64 0] 45)).heap.size = rb by rw [alloc_size]; exact hrb] at HB3
  try rw [hrb]
  generalize ((w2.alloc (.cells #[.int .i64 0, .int .i64 0] 45)).alloc (.cells #[.slice la l.length lc, .int .i64 0, .bool false] 103)) = w3 at *
  have HRD : Hid (Rd rb la lc (fun k => w1.heap.size + 1 ≤ k ∧ k < w2.heap.size) l w3 0 false) := Lib.hid ⟨HB3.out, HTK.out.ext HE3.out, fun h => by omega⟩
  have HTM := Lib.hid (term_x rb la lc (fun k => w1.heap.size + 1 ≤ k ∧ k < w2.heap.size) l HEN.out (by omega) l.length 0 false w3 HRD.out hl0 (by omega) (fun k hk => by omega))
  rw [if_neg (by decide), HP.out] at HTM
  go_wp2_with fail
  refine HTM.out.mono ?_
  rintro e w4 ⟨t', u, Bx, rfl, hT4, hB4, hu4, hm4⟩
  obtain ⟨rfl, hr4⟩ : t' = t ∧ Rd rb la lc (fun k => w1.heap.size + 1 ≤ k ∧ k < w2.heap.size) l w4 j false := hm4
  obtain ⟨ya, yc, hy⟩ := TlO.shape hT4
  subst hy
  have HT4 : Hid (TlR (fun k => w3.heap.size ≤ k ∧ k < w4.heap.size) w4 t'.kids (.slice ya t'.kids.length yc)) := Lib.hid ((TlO.read hT4).weaken hB4)
  have HR4 := Lib.hid hr4
  have hs4 := hu4.size
  have HU4 : Hid (Ext w w4) := Lib.hid ((HW2.out.trans HE3.out).trans' hu4 (fun k hk e => by omega))
  have HZ4 := Lib.hid (hu4.heap (HE3.out.heap HZ2.out (fun h => h)) (by omega))
  have HQ4 := Lib.hid (hu4.heap (HE3.out.heap HQ2.out (fun h => h)) (by omega))
  clear hT4 hB4 hu4 hr4 HTM HRD
  have HO5 := Lib.hid (alloc0 w4 (.cells #[.string t'.name, .string t'.sort, .slice ya t'.kids.length yc] 24))
  have HE5 := Lib.hid ((Upd.refl (fun _ => False) w4).alloc (.cells #[.string t'.name, .string t'.sort, .slice ya t'.kids.length yc] 24))
  have hs5 := alloc_size w4 (.cells #[.string t'.name, .string t'.sort, .slice ya t'.kids.length yc] 24)
  go_upto_region 6 with fail
  obtain ⟨nt, hnt⟩ : ∃ x, w4.heap.size = x := ⟨_, rfl⟩
  try rw [hnt] at HO5
  try rw [hnt]
  generalize w4.alloc (.cells #[.string t'.name, .string t'.sort, .slice ya t'.kids.length yc] 24) = w5 at *
  have HEND := Lib.hid (end_x rb la lc _ l j w5 (HR4.out.ext HE5.out) hjl (by omega) HK5.out)
  go_wp2_with fail
  refine HEND.out.mono ?_
  rintro e w6 ⟨rfl, hw6⟩
  have HE6 := Lib.hid ((HE5.out.trans hw6).alloc (.cells #[.int .i64 0, .int .i64 0] 45))
  have HO6 := Lib.hid (allocOld (hw6.heap HO5.out (fun h => h)) (.cells #[.int .i64 0, .int .i64 0] 45))
  have hs6 := hw6.size
  have hs6' := alloc_size w6 (.cells #[.int .i64 0, .int .i64 0] 45)
  clear hw6 HEND
  go_upto_region 9 with fail
  generalize w6.alloc (.cells #[.int .i64 0, .int .i64 0] 45) = w7 at *
  have HT7 := Lib.hid (HT4.out.ext HE6.out)
  have HU7 := Lib.hid (HU4.out.trans HE6.out)
  have t0 := cellRow HO6.out 0 (.string t'.name) rfl
  have t1 := cellRow HO6.out 1 (.string t'.sort) rfl
  have t2 := cellRow HO6.out 2 (.slice ya t'.kids.length yc) rfl
  have HF := Lib.hid (formed_x t' (tV t' (.slice ya t'.kids.length yc)) w7 (asc_ext HTAB.out HU7.out) ⟨ya, yc, rfl, HT7.out.weaken (fun k hk => by omega)⟩ (by omega))
  rw [hfm] at HF
  dsimp only [tV] at HF
  go_wp2_with fail
  refine HF.out.mono ?_
  rintro e w8 ⟨rfl, hw8⟩
  have HO8 := Lib.hid (hw8.heap HO6.out (fun h => h))
  have HT8 := Lib.hid (HT7.out.ext hw8)
  have HE8 := Lib.hid hw8
  have hs8 := hw8.size
  clear hw8 HF t0 t1 t2 hfm
  have t0 := cellRow HO8.out 0 (.string t'.name) rfl
  have t1 := cellRow HO8.out 1 (.string t'.sort) rfl
  have t2 := cellRow HO8.out 2 (.slice ya t'.kids.length yc) rfl
  have HL9 := Lib.hid (alloc0 w8 (.cells #[.string t'.name, .string t'.sort, .slice ya t'.kids.length yc] 24))
  have HE9 := Lib.hid ((Upd.refl (fun _ => False) w8).alloc (.cells #[.string t'.name, .string t'.sort, .slice ya t'.kids.length yc] 24))
  have hs9 := alloc_size w8 (.cells #[.string t'.name, .string t'.sort, .slice ya t'.kids.length yc] 24)
  have HSO := Lib.hid (sorts_x t' w8.heap.size 0 1 0 yc ya (w8.alloc (.cells #[.string t'.name, .string t'.sort, .slice ya t'.kids.length yc] 24)) ⟨cellRow HL9.out 0 _ rfl, cellRow HL9.out 1 _ rfl, cellRow HL9.out 2 _ rfl⟩ ((HT8.out.ext HE9.out).weaken (fun k hk => by omega)) (by omega))
  go_wp2_with fail
  refine HSO.out.mono ?_
  rintro e w9 ⟨hp, hw9⟩
  obtain ⟨mm, hmm⟩ := Option.isSome_iff_exists.1 h5
  rw [hmm] at hp
  obtain ⟨bq, rfl, _, _⟩ := hp
  have HE10 := Lib.hid (HE8.out.trans (HE9.out.trans hw9))
  have HO10 := Lib.hid ((HE9.out.trans hw9).heap HO8.out (fun h => h))
  have HZ10 := Lib.hid ((HE6.out.trans HE10.out).heap HZ4.out (fun h => h))
  have HQ10 := Lib.hid ((HE6.out.trans HE10.out).heap HQ4.out (fun h => h))
  have HT10 := Lib.hid (HT7.out.ext HE10.out)
  have HU10 := Lib.hid (HU7.out.trans HE10.out)
  have hs10 := hw9.size
  clear hw9 HSO t0 t1 t2 hmm
  have t0 := cellRow HO10.out 0 (.string t'.name) rfl
  have t1 := cellRow HO10.out 1 (.string t'.sort) rfl
  have t2 := cellRow HO10.out 2 (.slice ya t'.kids.length yc) rfl
  have z0 := cellRow HZ10.out 0 (.string ⟨#[]⟩) rfl
  have z1 := cellRow HZ10.out 1 (.string ⟨#[]⟩) rfl
  have z2 := cellRow HZ10.out 2 (.slice none 0 0) rfl
  have p0 := cellRow HQ10.out 0 (.int .i64 0) rfl
  have p1 := cellRow HQ10.out 1 (.int .i64 0) rfl
  have fz := fun j => frozenRow HZ10.out j
  have fp := fun j => frozenRow HQ10.out j
  go_wp2_with fail
  have hz := st3_heap HZ10.out (.string t'.name) (.string t'.sort) (.slice ya t'.kids.length yc)
  have huz := st3_upd' w9 b0 (.string t'.name) (.string t'.sort) (.slice ya t'.kids.length yc)
  have hq := st2_heap (huz.heap HQ10.out (by omega)) (.int .i64 0) (.int .i64 0)
  have huq := st2_upd ((((w9.setCell ⟨b0, 0, none⟩ (.string t'.name)).setCell ⟨b0, 1, none⟩ (.string t'.sort)).setCell ⟨b0, 2, none⟩ (.slice ya t'.kids.length yc))) (b0 + 1) (.int .i64 0) (.int .i64 0)
  have hz2 := huq.heap hz (by omega)
  have e0 := cellRow hz2 0 _ rfl
  have e1 := cellRow hz2 1 _ rfl
  have e2 := cellRow hz2 2 _ rfl
  have e3 := cellRow hq 0 _ rfl
  have e4 := cellRow hq 1 _ rfl
  refine bodyPost_ret (v := .tuple #[.agg #[.string t'.name, .string t'.sort, .slice ya t'.kids.length yc], .agg #[.int .i64 0, .int .i64 0], .int .i64 0]) (by simp [results, Tryz.results25, go_sem, e0, e1, e2, e3, e4]) rfl ?_
  have hsa := huz.size
  have hsb := huq.size
  exact ⟨_, rfl, ((HT10.out.kept huz (fun k hk e => by have := hk.1; omega)).kept huq (fun k hk e => by have := hk.1; omega)).weaken (fun k hk => ⟨by have := hk.1; omega, by have := hk.2; omega⟩), (HU10.out.trans' huz (fun k hk e => by omega)).trans' huq (fun k hk e => by omega)⟩

end Go.Proofs.YtjjaknmnhhfjeaaGreatDoor

/- Size and Depth. -/
namespace Go.Proofs.YtjjaknmnhhfjeaaGreatDoor
open Go.RowKit Go.Hw Go
set_option linter.unusedVariables false
set_option linter.unusedSimpArgs false

open Tm Go.Sort Go.Proofs Go.ChangeMaps
set_option maxRecDepth 100000 in
set_option maxHeartbeats 2000000 in
theorem Depth_x (t : Tm) (v : Value) (w : World) (htab : AscT w) (hR : TmR (fun k => k < w.heap.size) w t v) (hsz : (t.size : Int) ≤ 1000000000000) : Calls Tryz.prog 39 #[v] w fun e w' => e = .returned (.int .i64 (dpF t : Nat)) ∧ Ext w w' := by
  have HR := Lib.hid hR
  obtain ⟨a, cap, rfl, hT⟩ := hR
  dsimp only [tV]
  have HZ := Lib.hid ((Upd.refl (fun _ => False) w).alloc (.cells #[.string t.name, .string t.sort, .slice a t.kids.length cap] 24))
  have hb := alloc0 w (.cells #[.string t.name, .string t.sort, .slice a t.kids.length cap] 24)
  have HF := Lib.hid (fun W (hW : Ext w W) => size_x t _ W (asc_ext htab hW) ((HR.out.ext hW).weaken (fun k hk => Nat.lt_of_lt_of_le hk hW.size)) hsz)
  dsimp only [tV] at HF
  have c0 := cellRow hb 0 (.string t.name) rfl
  have c1 := cellRow hb 1 (.string t.sort) rfl
  have c2 := cellRow hb 2 (.slice a t.kids.length cap) rfl
  clear hT hb
  generalize szF t = X at *
  generalize dpF t = Y at *
  go_enter Tryz.func39, Tryz.ntmps39
  go_wp2_with fail
  refine (HF.out _ HZ.out).mono ?_
  rintro e w4 ⟨rfl, hw4⟩
  have H4 := Lib.hid (HZ.out.ext hw4)
  clear hw4 c0 c1 c2
  go_wp2_with fail
  go_ret
  exact ⟨rfl, H4.out⟩

end Go.Proofs.YtjjaknmnhhfjeaaGreatDoor
