/- The texts Y53 Y40, one behind the other. -/
import Derived.Test.YtjjaknmnhhfjeaaGreatDoorKBB
import Derived.Test.YtjjaknmnhhfjeaaGreatDoorKAX
import Derived.Lib.AppendStr
/- ParseSignature of the program. -/
namespace Go.Proofs.YtjjaknmnhhfjeaaGreatDoor
open Go.RowKit Go.Hw Go Go.Sort Go.Proofs Go.ChangeMaps
set_option linter.unusedVariables false
set_option linter.unusedSimpArgs false

open Tm
def pG3 (ss : List By) : PR (List Dc) → PR Sg
  | .bad j => .bad j
  | .ok os j => .ok (ss, os) j
def pG2 (l : List Tok) : PR (List By) → PR Sg
  | .bad j => .bad j
  | .ok ss i => pG3 ss (pM (pD l) wOp l l.length i [])
theorem nameF_bd {l : List Tok} (h : Ended l) {j : Nat} {b : Bool} (hj : j < l.length) : (nameF l j b).2.1 < l.length ∧ j ≤ (nameF l j b).2.1 := by
  unfold nameF
  by_cases hc : b = false ∧ (tk l j).kind = 1
  · rw [if_pos hc]; exact ⟨h.next hj (by omega), Nat.le_succ _⟩
  · rw [if_neg hc]; exact ⟨hj, Nat.le_refl _⟩
theorem takeF_bd {l : List Tok} (h : Ended l) {j : Nat} {b : Bool} {s : By} (hj : j < l.length) : (takeF l j b s).1 < l.length ∧ j ≤ (takeF l j b s).1 ∧ (b = true → (takeF l j b s).2 = true) := by
  unfold takeF
  by_cases hc : (!b && isB (tk l j) s) = true
  · rw [if_pos hc]
    rw [Bool.and_eq_true] at hc
    exact ⟨h.isB hj hc.2, Nat.le_succ _, fun e => by rw [e] at hc; simp at hc⟩
  · rw [if_neg hc]; exact ⟨hj, Nat.le_refl _, fun _ => rfl⟩
theorem SgR.kept2 {S F : Nat → Prop} {w w' : World} {g : Sg} {v : Value} (h : SgR S w g v) (hu : Upd F w w') (hF : ∀ k, S k → ¬ F k) : SgR S w' g v := by
  obtain ⟨sa, sc, oa, oc, e, h1, h2⟩ := h
  exact ⟨sa, sc, oa, oc, e, SlR.kept h1 hu hF, h2.kept hu hF⟩
theorem infoD : (Tryz.prog.info? 96).map (fun i => (i.zero, i.size, i.bytes)) = some (some (.agg #[.string ⟨#[]⟩, .slice none 0 0, .string ⟨#[]⟩]), 3, 56) := by kernel_rfl
theorem pG_eq (l : List Tok) : pG l = pG2 l (pM (pN l) wSort l l.length 0 []) := by
  unfold pG pG2
  cases pM (pN l) wSort l l.length 0 [] with
  | bad j => rfl
  | ok ss i => dsimp only; cases pM (pD l) wOp l l.length i [] <;> rfl
set_option maxRecDepth 100000 in
set_option maxHeartbeats 8000000 in
theorem psig_x (s : By) (w : World) (htab : AscT w) (hA : AtoiD w) (hs : s.size ≤ 1000000) (R : Sg × (Int × Int) × Int) (hR : psgF s = R) :
    Calls Tryz.prog 19 #[.string s] w fun e w' => ∃ v, e = .returned (.tuple #[v, .agg #[.int .i64 R.2.1.1, .int .i64 R.2.1.2], .int .i64 R.2.2]) ∧ SgR (fun k => w.heap.size ≤ k ∧ k < w'.heap.size) w' R.1 v ∧ Ext w w' := by
  have HTT : ∀ W, Ext w W → Calls Tryz.prog 58 #[.string s] W fun e W' => TokP (W.heap.size + 1) W' e (tokF (wdF iR) s) ∧ Ext W W' := fun W hW => tok_iP s W (asc_ext htab hW) (hA.ext hW) hs
  unfold psgF at hR
  cases h1 : tokF (wdF iR) s with
  | full => rw [h1] at hR HTT; exact psig_e1 s R 0 0 4 w hR.symm (by decide) HTT
  | bad ln cl => rw [h1] at hR HTT; exact psig_e1 s R ln cl 7 w hR.symm (by decide) HTT
  | ok l =>
  rw [h1] at hR HTT
  dsimp only at hR
  obtain ⟨hen, hll⟩ := tok_ended h1
  have hl0 := hen.pos
  have HEN := Lib.hid hen
  have HTAB := Lib.hid htab
  have HE0 := Lib.hid (((Upd.refl (fun _ => False) w).alloc (.cells #[.slice none 0 0, .slice none 0 0] 42)).alloc (.cells #[.int .i64 0, .int .i64 0] 45))
  have HZ0 := Lib.hid (allocOld (alloc0 w (.cells #[.slice none 0 0, .slice none 0 0] 42)) (.cells #[.int .i64 0, .int .i64 0] 45))
  have HQ0 := Lib.hid (alloc_at (w.alloc (.cells #[.slice none 0 0, .slice none 0 0] 42)) (.cells #[.int .i64 0, .int .i64 0] 45) (n := w.heap.size + 1) (by simp))
  have hs0 : ((w.alloc (.cells #[.slice none 0 0, .slice none 0 0] 42)).alloc (.cells #[.int .i64 0, .int .i64 0] 45)).heap.size = w.heap.size + 2 := by simp
  obtain ⟨b0, hb0⟩ : ∃ x, w.heap.size = x := ⟨_, rfl⟩
  rw [hb0] at HZ0 HQ0
  have HTO := Lib.hid (HTT ((w.alloc (.cells #[.slice none 0 0, .slice none 0 0] 42)).alloc (.cells #[.int .i64 0, .int .i64 0] 45)) HE0.out)
  have HRR := Lib.hid hR
  clear HTT htab hA hen h1 hR
  go_enter Tryz.func19, Tryz.ntmps19
  go_wp2_with fail
  try rw [hb0]
  generalize ((w.alloc (.cells #[.slice none 0 0, .slice none 0 0] 42)).alloc (.cells #[.int .i64 0, .int .i64 0] 45)) = w1 at *
  refine HTO.out.mono ?_
  rintro e w2 ⟨⟨v, rfl, hTk⟩, hw2⟩
  obtain ⟨la, lc, hv⟩ := SlR.shape hTk
  subst hv
  have HTK := Lib.hid hTk
  have HW2 := Lib.hid (HE0.out.trans hw2)
  have HX2 := Lib.hid hw2
  have HZ2 := Lib.hid (hw2.heap HZ0.out (fun h => h))
  have HQ2 := Lib.hid (hw2.heap HQ0.out (fun h => h))
  have hs2 := hw2.size
  clear hw2 hTk HTO
  have HB3 := Lib.hid (allocOld (allocOld (alloc0 (w2.alloc (.cells #[.int .i64 0, .int .i64 0] 45)) (.cells #[.slice la l.length lc, .int .i64 0, .bool false] 103)) (.cells #[.pointer (some ⟨w2.heap.size + 1, 0, none⟩)] 101)) (.cells #[.slice none 0 0, .slice none 0 0] 42))
  have HX3 := Lib.hid (allocOld (alloc_at ((w2.alloc (.cells #[.int .i64 0, .int .i64 0] 45)).alloc (.cells #[.slice la l.length lc, .int .i64 0, .bool false] 103)) (.cells #[.pointer (some ⟨w2.heap.size + 1, 0, none⟩)] 101) (n := w2.heap.size + 2) (by simp)) (.cells #[.slice none 0 0, .slice none 0 0] 42))
  have HG3 := Lib.hid (alloc_at (((w2.alloc (.cells #[.int .i64 0, .int .i64 0] 45)).alloc (.cells #[.slice la l.length lc, .int .i64 0, .bool false] 103)).alloc (.cells #[.pointer (some ⟨w2.heap.size + 1, 0, none⟩)] 101)) (.cells #[.slice none 0 0, .slice none 0 0] 42) (n := w2.heap.size + 3) (by simp))
  have HE3 := Lib.hid (((((Upd.refl (fun _ => False) w2).alloc (.cells #[.int .i64 0, .int .i64 0] 45)).alloc (.cells #[.slice la l.length lc, .int .i64 0, .bool false] 103)).alloc (.cells #[.pointer (some ⟨w2.heap.size + 1, 0, none⟩)] 101)).alloc (.cells #[.slice none 0 0, .slice none 0 0] 42))
  have hs3 : ((((w2.alloc (.cells #[.int .i64 0, .int .i64 0] 45)).alloc (.cells #[.slice la l.length lc, .int .i64 0, .bool false] 103)).alloc (.cells #[.pointer (some ⟨w2.heap.size + 1, 0, none⟩)] 101)).alloc (.cells #[.slice none 0 0, .slice none 0 0] 42)).heap.size = w2.heap.size + 4 := by simp
  go_wp2_with fail
  obtain ⟨rb, hrb⟩ : ∃ x, w2.heap.size + 1 = x := ⟨_, rfl⟩
  rw [show w2.heap.size + 2 = rb + 1 by omega] at HX3
  rw [show w2.heap.size + 3 = rb + 2 by omega] at HG3
  rw [show (w2.alloc (.cells #[.int .i64 0, .int .i64 0] 45)).heap.size = rb by rw [alloc_size]; exact hrb] at HB3
  rw [hrb] at HB3 HX3 HG3 HE3 hs3
  try simp only [alloc_size]
  try rw [hrb]
  generalize ((((w2.alloc (.cells #[.int .i64 0, .int .i64 0] 45)).alloc (.cells #[.slice la l.length lc, .int .i64 0, .bool false] 103)).alloc (.cells #[.pointer (some ⟨rb, 0, none⟩)] 101)).alloc (.cells #[.slice none 0 0, .slice none 0 0] 42)) = w3 at *
  have HSS : Hid (∀ k, (fun k => w1.heap.size + 1 ≤ k ∧ k < w2.heap.size) k → k < w3.heap.size ∧ k ≠ rb + 2) := Lib.hid (fun k hk => ⟨by have := hk.2; omega, by have := hk.2; omega⟩)
  have HSJ : Hid (SJ rb la lc (fun k => w1.heap.size + 1 ≤ k ∧ k < w2.heap.size) l (rb + 2) (rb + 1) w3 (.slice none 0 0) [] 0 false w3) := Lib.hid ⟨⟨HB3.out, HTK.out.ext HE3.out, fun h => by omega⟩, HG3.out, ⟨rfl, .inl ⟨rfl, rfl⟩⟩, HX3.out, Upd.refl _ _, Nat.le_refl _⟩
  have HW3 := Lib.hid (HW2.out.trans HE3.out)
  have HZ3 := Lib.hid (HE3.out.heap HZ2.out (fun h => h))
  have HQ3 := Lib.hid (HE3.out.heap HQ2.out (fun h => h))
  have hsb : b0 + 2 ≤ rb := by omega
  clear HB3 HX3 HG3 HE3 HZ2 HQ2 HTK HX2 HZ0 HQ0
  have HKW : Hid (∃ q, pM (pN l) wSort l l.length 0 [] = q) := Lib.hid ⟨_, rfl⟩
  obtain ⟨Q1, hq1⟩ := HKW.out
  have HQ1 := Lib.hid hq1
  obtain ⟨Q2, hq2⟩ : ∃ q, pG l = q := ⟨_, rfl⟩
  have HPG : Hid (pG2 l Q1 = Q2) := Lib.hid (by rw [← hq2, ← hq1, pG_eq])
  rw [hq2] at HRR
  clear hq2
  have hs1 : (⟨#[115, 111, 114, 116]⟩ : By) = wSort := rfl
  have hs2' : (⟨#[111, 112]⟩ : By) = wOp := rfl
  clear HKW hq1
  go_loopg [] (if false = true then 0 else l.length - 0) (fun gk wr => ∃ (sv : Value) (xs : List By) (i : Nat) (b : Bool) (m : Nat), gk = (if b = true then 0 else l.length - i) ∧ i < l.length ∧ l.length - i ≤ m ∧ Hid (SJ rb la lc (fun k => w1.heap.size + 1 ≤ k ∧ k < w2.heap.size) l (rb + 2) (rb + 1) w3 sv xs i b wr) ∧ Hid ((if b = true then .bad i else pM (pN l) wSort l m i xs) = Q1))
  case atStart => exact ⟨_, [], 0, false, l.length, rfl, hl0, Nat.le_refl _, HSJ, HQ1⟩
  case round =>
    clear HSJ HQ1
    obtain ⟨sv, xs, i, b, m, rfl, hi, hm, HJ, HQ⟩ := hrel
    have x0 := cellRow HJ.out.rxx 0 (.pointer (some ⟨rb, 0, none⟩)) rfl
    have HIS := Lib.hid (is_x rb la lc (fun k => w1.heap.size + 1 ≤ k ∧ k < w2.heap.size) l i b wSort wr HJ.out.rd hi (by omega))
    obtain ⟨c, hc⟩ : ∃ c, (!b && isB (tk l i) wSort) = c := ⟨_, rfl⟩
    rw [hc] at HIS
    have HC := Lib.hid hc
    clear hc
    go_wp2_with fail
    try rw [hs1]
    refine HIS.out.mono ?_
    rintro e w5 ⟨rfl, hw5⟩
    have HJ5 := Lib.hid (HJ.out.to (by omega) (by omega) (by omega) (hw5.mono (fun _ _ h => h.elim)) (HJ.out.rd.ext hw5) (Nat.le_refl _))
    clear hw5 HIS HJ x0
    have x0 := cellRow HJ5.out.rxx 0 (.pointer (some ⟨rb, 0, none⟩)) rfl
    cases c
    case true =>
      have hb : b = false := by have := HC.out; cases b; rfl; simp at this
      subst hb
      have hkw : isB (tk l i) wSort = true := by simpa using HC.out
      have hi1 := HEN.out.isB hi hkw
      obtain ⟨m, rfl⟩ : ∃ m', m = m' + 1 := ⟨m - 1, by omega⟩
      have HQ2 : Hid ((match pN l (i + 1) with | .bad j => .bad j | .ok x j => pM (pN l) wSort l m j (xs ++ [x])) = Q1) := Lib.hid (by
        have := HQ.out
        rw [if_neg (by decide), pM, if_pos hkw] at this
        rw [← this]
        cases pN l (i + 1) <;> rfl)
      have HRD := Lib.hid HJ5.out.rd
      have HBR := Lib.hid HRD.out.box
      have c0 := cellRow HBR.out 0 (.slice la l.length lc) rfl
      have c1 := cellRow HBR.out 1 (.int .i64 (i : Int)) rfl
      have c2 := cellRow HBR.out 2 (.bool false) rfl
      have fr := fun j => frozenRow HBR.out j
      have hw1 : IntKind.i64.wrap ((i : Int) + 1) = (i : Int) + 1 := IntWalk.i64_in _ (by omega)
      have hb := setBlock HBR.out 1 (.int .i64 ((i : Int) + 1))
      have hu := (Upd.refl (fun k => k = rb) w5).setCell (p := ⟨rb, 1, none⟩) (.inl rfl) (.int .i64 ((i : Int) + 1))
      have HR6 : Hid (Rd rb la lc (fun k => w1.heap.size + 1 ≤ k ∧ k < w2.heap.size) l (w5.setCell ⟨rb, 1, none⟩ (.int .i64 ((i : Int) + 1))) (i + 1) false) := Lib.hid (HRD.out.to hu (by simpa using hb))
      have HU6 := Lib.hid hu
      clear hb hu
      have hln5 := HJ5.out.ln
      have HJ6 := Lib.hid (HJ5.out.to (by omega) (by omega) (by omega) HU6.out HR6.out (Nat.le_succ i))
      clear HC HQ hkw
      go_upto_region 8 with fail
      generalize w5.setCell ⟨rb, 1, none⟩ (.int .i64 ((i : Int) + 1)) = w6 at *
      clear x0 c0 c1 c2 fr hw1 HBR HU6 HR6 HRD HJ5
      have HBX := Lib.hid HJ6.out.gbx
      have HOW := Lib.hid HJ6.out.own
      have HNM := Lib.hid (fun W (hW : Ext w6 W) => name_x rb la lc (fun k => w1.heap.size + 1 ≤ k ∧ k < w2.heap.size) l (i + 1) false W (HJ6.out.rd.ext hW) hi1 (by omega))
      have HPN : Hid (pN l (i + 1) = (if (nameF l (i + 1) false).2.2 = true then .bad (nameF l (i + 1) false).2.1 else .ok (nameF l (i + 1) false).1 (nameF l (i + 1) false).2.1) ∧ (nameF l (i + 1) false).2.1 < l.length ∧ i + 1 ≤ (nameF l (i + 1) false).2.1) := Lib.hid (by
        by_cases hk : (tk l (i + 1)).kind = 1
        · obtain ⟨g1, g2⟩ := nameF_ok hk
          rw [g1, g2, if_neg (by simp)]
          exact ⟨rfl, HEN.out.next hi1 (by omega), Nat.le_succ _⟩
        · obtain ⟨g1, g2⟩ := nameF_bad hk
          rw [g1, g2, if_pos rfl]
          exact ⟨rfl, hi1, Nat.le_refl _⟩)
      obtain ⟨⟨nx, i2, b2⟩, hnf⟩ : ∃ p, nameF l (i + 1) false = p := ⟨_, rfl⟩
      rw [hnf] at HNM HPN
      dsimp only at HNM HPN
      clear hnf
      obtain ⟨la0, lc0, hlv⟩ := own_shape HJ6.out.own
      subst hlv
      obtain ⟨i0, hi9, hz0, hz1, hz2⟩ := info_parts infoS
      have hno : ¬ (Value.slice la0 xs.length lc0).ownBlock = some (rb + 2) := fun e => by have := (HOW.out.lt _ e).1; omega
      have hnr : ¬ (Value.slice la0 xs.length lc0).ownBlock = some (rb + 1) := fun e => by have := (HOW.out.lt _ e).1; omega
      have X0 : ∀ x : XF (fun k => k = rb ∨ (Value.slice la0 xs.length lc0).ownBlock = some k) w6, x.val.cell? ⟨rb + 2, 0, none⟩ = some (.slice la0 xs.length lc0) := fun x => x.upd.cell (cellRow HBX.out 0 _ rfl) (fun h => h.elim (fun h => absurd (show rb + 2 = rb from h) (by omega)) hno)
      have X1 : ∀ x : XF (fun k => k = rb ∨ (Value.slice la0 xs.length lc0).ownBlock = some k) w6, x.val.cell? ⟨rb + 1, 0, none⟩ = some (.pointer (some ⟨rb, 0, none⟩)) := fun x => x.upd.cell (cellRow HJ6.out.rxx 0 _ rfl) (fun h => h.elim (fun h => absurd (show rb + 1 = rb from h) (by omega)) hnr)
      refine wp_region_mix [(0, 0), (1, 0), (2, 0), (3, 1), (4, 1), (5, 1), (6, 0), (7, 2)] 7 (fun W => ∃ x : XF (fun k => k = rb ∨ (Value.slice la0 xs.length lc0).ownBlock = some k) w6, W = x.val) (by kernel_rfl) (by kernel_rfl) (fun _ _ d _ _ h => by cases d <;> exact h) ⟨⟨_, (Upd.refl _ w6).drew⟩, rfl⟩ ?_
      simp only [pickO, List.getElem?_cons_zero, List.getElem?_cons_succ]
      have HD : Hid (Ext w6 w6.drew) := Lib.hid (Upd.refl (fun _ => False) w6).drew
      have HSD : Hid (∃ x : XF (fun k => k = rb ∨ (Value.slice la0 xs.length lc0).ownBlock = some k) w6, w6.drew = x.val) := Lib.hid ⟨⟨_, (Upd.refl _ w6).drew⟩, rfl⟩
      iterate 3 (refine mix_take ?_; intro K hK; go_simp; refine hK _ ?_; clear hK K)
      refine mix_one ?_ HSD.out
      intro K hK _
      go_simp
      refine (HNM.out _ HD.out).mono ?_
      rintro e w7 ⟨rfl, hu5, hr5⟩
      have HU7 : Hid (Upd (fun k => k = rb) w6 w7) := Lib.hid ((HD.out.mono (fun _ _ h => h.elim)).trans hu5)
      have HR7 := Lib.hid hr5
      have HS7 : Hid (∃ x : XF (fun k => k = rb ∨ (Value.slice la0 xs.length lc0).ownBlock = some k) w6, w7 = x.val) := Lib.hid ⟨⟨w7, HU7.out.mono (fun _ _ e => .inl e)⟩, rfl⟩
      refine hK _ _ HS7.out ?_
      clear hK K X0 X1 hu5 hr5 HSD HD HNM
      have HO7 := Lib.hid (own_kept HOW.out HU7.out (fun j hj e => by have := (HOW.out.lt j hj).1; omega))
      have HB7 := Lib.hid (HU7.out.heap HBX.out (by omega))
      refine mix_one ?_ HS7.out
      intro K hK _
      go_simp
      have HA8 := Lib.hid ((Upd.refl (fun _ => False) w7).alloc (.cells #[.string nx] 9))
      have HN8 := Lib.hid (alloc0 w7 (.cells #[.string nx] 9))
      have HU8 := Lib.hid (HU7.out.alloc (.cells #[.string nx] 9))
      have HO8 := Lib.hid (HO7.out.alloc (.cells #[.string nx] 9))
      have HB8 := Lib.hid (allocOld HB7.out (.cells #[.string nx] 9))
      have HR8 := Lib.hid (HR7.out.ext HA8.out)
      have HS8 : Hid (∃ x : XF (fun k => k = rb ∨ (Value.slice la0 xs.length lc0).ownBlock = some k) w6, (w7.alloc (.cells #[.string nx] 9)) = x.val) := Lib.hid ⟨⟨_, (HU7.out.mono (fun _ _ e => .inl e)).alloc _⟩, rfl⟩
      refine hK _ _ HS8.out ?_
      clear hK K
      obtain ⟨nb, hnb⟩ : ∃ q, w7.heap.size = q := ⟨_, rfl⟩
      rw [hnb] at HN8
      try rw [hnb]
      have hsz8 : w3.heap.size ≤ (w7.alloc (.cells #[.string nx] 9)).heap.size := Nat.le_trans HJ6.out.up.size HU8.out.size
      have hln := HJ6.out.ln
      clear hnb HA8 HU7 HO7 HB7 HR7 HS7
      generalize w7.alloc (.cells #[.string nx] 9) = w8 at *
      refine mix_one ?_ HS8.out
      intro K hK _
      rw [if_pos (by rfl)]
      refine step_append_at _ (.tmp 37) (.tmp 40) 39 rfl w3.heap.size 9 i0 (.string ⟨#[]⟩) 1 16 Tryz.underlying39 hi9 hz0 hz1 hz2 rfl (by decide) _ _ _ rfl HO8.out ⟨nb, 0, none⟩ 1 1 [.string nx] rfl rfl (fun j u hj => by
        match j, hj with
        | 0, hj => simp at hj; subst hj; simp only [Addr.add]; exact cellRow HN8.out 0 _ rfl) (fun u hu => by simp at hu; subst hu; rfl) (by unfold maxLen; omega) (by omega) hsz8 ?_
      intro v' w9 hG
      have HG := Lib.hid hG
      refine hK _ _ ⟨⟨w9, (HU8.out.mono (fun _ _ e => .inl e)).trans (hG.upd.mono (fun _ _ e => .inr e))⟩, rfl⟩ ?_
      clear hK K
      have HJ9 := Lib.hid (HJ6.out.push nx (by omega) (by omega) (by omega) (by omega) (by omega) (by omega) HSS.out HU8.out HR8.out hG (by have := HPN.out.2.2; omega))
      obtain ⟨xa, xc, hxs⟩ := own_shape hG.own
      have hB9 := hG.upd.heap HB8.out hno
      have c1 := cellRow hB9 0 (.slice la0 xs.length lc0) rfl
      have fb := fun j => frozenRow hB9 j
      clear hG hB9
      subst hxs
      refine mix_take ?_
      intro K hK
      go_simp
      refine hK _ ?_
      clear hK K
      refine mix_two ?_
      intro K hK
      go_simp
      refine hK _ _ ?_
      clear hK K
      simp only [wpMix]
      go_wp2_with fail
      generalize w9.setCell ⟨rb + 2, 0, none⟩ (.slice xa (xs.length + 1) xc) = wz at *
      obtain ⟨p1, p2, p3⟩ := HPN.out
      have HQ3 : Hid ((if b2 = true then .bad i2 else pM (pN l) wSort l m i2 (xs ++ [nx])) = Q1) := Lib.hid (by
        have h3 := HQ2.out
        rw [p1] at h3
        cases b2
        · rw [if_neg (by decide)] at h3 ⊢; exact h3
        · rw [if_pos rfl] at h3 ⊢; exact h3)
      go_roundg (if b2 = true then 0 else l.length - i2)
      case measure =>
        cases b2 <;> simp <;> omega
      case rel => exact ⟨_, _, i2, b2, m, rfl, p2, by omega, HJ9, HQ3⟩
    have HPG2 : Hid ((if b = true then .bad i else pG3 xs (pM (pD l) wOp l l.length i [])) = Q2) := Lib.hid (by
      rw [← HPG.out, ← HQ.out]
      cases b
      · obtain ⟨m, rfl⟩ : ∃ m', m = m' + 1 := ⟨m - 1, by omega⟩
        have hkw : ¬ isB (tk l i) wSort = true := by have := HC.out; simpa using this
        rw [if_neg (by decide), if_neg (by decide), pM, if_neg hkw]
        rfl
      · rw [if_pos rfl, if_pos rfl]
        rfl)
    clear HC HQ HPG
    obtain ⟨sa, sc, hsv⟩ := own_shape HJ5.out.own
    subst hsv
    have HTS : Hid (∀ k, (Value.slice sa xs.length sc).ownBlock = some k → k < w5.heap.size ∧ k ≠ rb ∧ k ≠ rb + 2) := Lib.hid (fun k hk => by have := HJ5.out.own.lt k hk; exact ⟨this.2, by omega, by omega⟩)
    have HTN : Hid (∀ k, (Value.slice sa xs.length sc).ownBlock = some k → w3.heap.size ≤ k) := Lib.hid (fun k hk => (HJ5.out.own.lt k hk).1)
    have HW5 : Hid (Ext w w5) := Lib.hid (HW3.out.trans' HJ5.out.up (fun k hk e => by rcases e with e | e <;> omega))
    have HZ5 := Lib.hid (HJ5.out.up.heap HZ3.out (fun e => by rcases e with e | e <;> omega))
    have HQ5 := Lib.hid (HJ5.out.up.heap HQ3.out (fun e => by rcases e with e | e <;> omega))
    have hs5 := HJ5.out.up.size
    have hlx : xs.length ≤ l.length := Nat.le_trans HJ5.out.ln (by omega)
    have HSS5 : Hid (∀ k, (fun k => w1.heap.size + 1 ≤ k ∧ k < w2.heap.size) k → k < w5.heap.size ∧ k ≠ rb + 2) := Lib.hid (fun k hk => ⟨by have := (HSS.out k hk).1; omega, (HSS.out k hk).2⟩)
    have HDJ : Hid (DJ rb la lc (fun k => w1.heap.size + 1 ≤ k ∧ k < w2.heap.size) l (rb + 2) (rb + 1) w5 (fun k => (Value.slice sa xs.length sc).ownBlock = some k) xs sa sc (.slice none 0 0) (fun _ => False) [] [] i b w5) := Lib.hid ⟨HJ5.out.rd, HJ5.out.gbx, SlR.of_own HJ5.out.own, ⟨rfl, .inl ⟨rfl, rfl⟩⟩, fun k h => h.elim, fun j hj => absurd hj (Nat.not_lt_zero _), HJ5.out.rxx, Upd.refl _ _, Nat.zero_le _, rfl, fun d h => by cases h⟩
    clear HJ5 x0 HSS HW3 HZ3 HQ3
    go_wp2_with fail
    go_loopg [] (if b = true then 0 else l.length - i) (fun gk wr => ∃ (ov : Value) (B : Nat → Prop) (us : List Value) (os : List Dc) (i : Nat) (b : Bool) (m : Nat), gk = (if b = true then 0 else l.length - i) ∧ i < l.length ∧ l.length - i ≤ m ∧ Hid (DJ rb la lc (fun k => w1.heap.size + 1 ≤ k ∧ k < w2.heap.size) l (rb + 2) (rb + 1) w5 (fun k => (Value.slice sa xs.length sc).ownBlock = some k) xs sa sc ov B us os i b wr) ∧ Hid ((if b = true then .bad i else pG3 xs (pM (pD l) wOp l m i os)) = Q2))
    case atStart => exact ⟨_, _, [], [], i, b, l.length, rfl, hi, by omega, HDJ, HPG2⟩
    case round =>
      clear HDJ HPG2 hi hm
      obtain ⟨ov, B, us, os, i, b, m, rfl, hi, hm, HJ, HQ⟩ := hrel
      have x0 := cellRow HJ.out.rxx 0 (.pointer (some ⟨rb, 0, none⟩)) rfl
      have HIS := Lib.hid (is_x rb la lc (fun k => w1.heap.size + 1 ≤ k ∧ k < w2.heap.size) l i b wOp wr HJ.out.rd hi (by omega))
      obtain ⟨c, hc⟩ : ∃ c, (!b && isB (tk l i) wOp) = c := ⟨_, rfl⟩
      rw [hc] at HIS
      have HC := Lib.hid hc
      clear hc
      go_wp2_with fail
      try rw [hs2']
      refine HIS.out.mono ?_
      rintro e w6 ⟨rfl, hw6⟩
      have HJ6 := Lib.hid (HJ.out.to (by omega) (by omega) (by omega) (fun k hk => (HTS.out k hk).2.1) (hw6.mono (fun _ _ h => h.elim)) (HJ.out.rd.ext hw6) (Nat.le_refl _))
      clear hw6 HIS HJ x0
      have x0 := cellRow HJ6.out.rxx 0 (.pointer (some ⟨rb, 0, none⟩)) rfl
      cases c
      case true =>
        have hb : b = false := by have := HC.out; cases b; rfl; simp at this
        subst hb
        have hkw : isB (tk l i) wOp = true := by simpa using HC.out
        have hi1 := HEN.out.isB hi hkw
        obtain ⟨m, rfl⟩ : ∃ m', m = m' + 1 := ⟨m - 1, by omega⟩
        have HQ2 : Hid (pG3 xs (match pD l (i + 1) with | .bad j => .bad j | .ok x j => pM (pD l) wOp l m j (os ++ [x])) = Q2) := Lib.hid (by
          have := HQ.out
          rw [if_neg (by decide), pM, if_pos hkw] at this
          rw [← this]
          cases pD l (i + 1) <;> rfl)
        have HRD := Lib.hid HJ6.out.rd
        have HBR := Lib.hid HRD.out.box
        have c0 := cellRow HBR.out 0 (.slice la l.length lc) rfl
        have c1 := cellRow HBR.out 1 (.int .i64 (i : Int)) rfl
        have c2 := cellRow HBR.out 2 (.bool false) rfl
        have fr := fun j => frozenRow HBR.out j
        have hw1 : IntKind.i64.wrap ((i : Int) + 1) = (i : Int) + 1 := IntWalk.i64_in _ (by omega)
        have hb := setBlock HBR.out 1 (.int .i64 ((i : Int) + 1))
        have hu := (Upd.refl (fun k => k = rb) w6).setCell (p := ⟨rb, 1, none⟩) (.inl rfl) (.int .i64 ((i : Int) + 1))
        have HR6 : Hid (Rd rb la lc (fun k => w1.heap.size + 1 ≤ k ∧ k < w2.heap.size) l (w6.setCell ⟨rb, 1, none⟩ (.int .i64 ((i : Int) + 1))) (i + 1) false) := Lib.hid (HRD.out.to hu (by simpa using hb))
        have HU6 := Lib.hid hu
        clear hb hu
        have hln6 := HJ6.out.ln
        have HJ7 := Lib.hid (HJ6.out.to (by omega) (by omega) (by omega) (fun k hk => (HTS.out k hk).2.1) HU6.out HR6.out (Nat.le_succ i))
        clear HC HQ hkw
        go_upto_region 11 with fail
        generalize w6.setCell ⟨rb, 1, none⟩ (.int .i64 ((i : Int) + 1)) = w7 at *
        clear x0 c0 c1 c2 fr hw1 HBR HU6 HR6 HRD HJ6
        have x0 := cellRow HJ7.out.rxx 0 (.pointer (some ⟨rb, 0, none⟩)) rfl
        have HNM := Lib.hid (name_x rb la lc (fun k => w1.heap.size + 1 ≤ k ∧ k < w2.heap.size) l (i + 1) false w7 HJ7.out.rd hi1 (by omega))
        have HI2 := Lib.hid (nameF_bd HEN.out (b := false) hi1)
        obtain ⟨⟨nm, i2, b2⟩, hnf⟩ : ∃ p, nameF l (i + 1) false = p := ⟨_, rfl⟩
        rw [hnf] at HNM HI2
        dsimp only at HNM HI2
        have HNF := Lib.hid hnf
        clear hnf
        go_wp2_with fail
        refine HNM.out.mono ?_
        rintro e w8 ⟨rfl, hu8, hr8⟩
        have HU8 := Lib.hid hu8
        have HX8 := Lib.hid (hu8.heap HJ7.out.rxx (by omega))
        have HB9 := Lib.hid (alloc0 w8 (.cells #[.string nm, .slice none 0 0, .string ⟨#[]⟩] 96))
        have HE9 := Lib.hid ((Upd.refl (fun _ => False) w8).alloc (.cells #[.string nm, .slice none 0 0, .string ⟨#[]⟩] 96))
        have HX9 := Lib.hid (allocOld HX8.out (.cells #[.string nm, .slice none 0 0, .string ⟨#[]⟩] 96))
        have HR9 := Lib.hid (Rd.ext hr8 HE9.out)
        have hs8 := hu8.size
        have hs7 := HJ7.out.up.size
        have hs9 := alloc_size w8 (.cells #[.string nm, .slice none 0 0, .string ⟨#[]⟩] 96)
        clear hu8 hr8 HNM x0 HX8
        go_upto_region 12 with fail
        obtain ⟨ob, hob⟩ : ∃ x, w8.heap.size = x := ⟨_, rfl⟩
        try rw [hob] at HB9
        try rw [hob]
        generalize w8.alloc (.cells #[.string nm, .slice none 0 0, .string ⟨#[]⟩] 96) = w9 at *
        obtain ⟨hi2, hii2⟩ := HI2.out
        have HSN : Hid (∀ k, (fun k => w1.heap.size + 1 ≤ k ∧ k < w2.heap.size) k → k < w8.heap.size) := Lib.hid (fun k hk => by have := (HSS5.out k hk).1; omega)
        have HKN : Hid (KN rb la lc (fun k => w1.heap.size + 1 ≤ k ∧ k < w2.heap.size) l ob (rb + 1) (ob + 1) nm w8 [] i2 b2 w9) := Lib.hid ⟨HR9.out, ⟨.slice none 0 0, HB9.out, ⟨rfl, .inl ⟨rfl, rfl⟩⟩⟩, HX9.out, by omega, HE9.out.mono (fun _ _ h => h.elim), Nat.zero_le _⟩
        have HNX := fun (ys : List By) (j : Nat) (bb : Bool) (W : World) (hk : KN rb la lc (fun k => w1.heap.size + 1 ≤ k ∧ k < w2.heap.size) l ob (rb + 1) (ob + 1) nm w8 ys j bb W) (hj : j < l.length) (hy : ys.length ≤ j) => name62_x rb la lc (fun k => w1.heap.size + 1 ≤ k ∧ k < w2.heap.size) l ob (rb + 1) (ob + 1) nm w8 (by omega) (by omega) (by omega) (by omega) (by omega) (by omega) (by omega) (by omega) HSN.out (by omega) ys j bb W hk hj hy
        have HLIST := Lib.hid (list62_x (pN l) (fun ys j bb W => KN rb la lc (fun k => w1.heap.size + 1 ≤ k ∧ k < w2.heap.size) l ob (rb + 1) (ob + 1) nm w8 ys j bb W) (fun ys j W => KN rb la lc (fun k => w1.heap.size + 1 ≤ k ∧ k < w2.heap.size) l ob (rb + 1) (ob + 1) nm w8 ys j true W ∧ ys.length ≤ j) rb la lc (fun k => w1.heap.size + 1 ≤ k ∧ k < w2.heap.size) l ob (rb + 1) HEN.out (pN_fwd HEN.out) (by omega)
          (fun ys j bb W h => h.rd)
          (fun ys j bb W W' j' bb' h e1 e2 hu hr => h.to (by omega) (by omega) (by omega) e1 e2 hu hr)
          (fun ys j W W' h hu hr => ⟨h.to (by omega) (by omega) (by omega) (Nat.le_refl _) (fun h => by cases h) hu hr, by have := h.ln; simpa using this⟩)
          (fun ys j W h hj => by
            refine (HNX ys j false W h hj (by have := h.ln; simpa using this)).mono ?_
            rintro e W' ⟨rfl, hk'⟩
            refine ⟨rfl, ?_⟩
            unfold ElP
            by_cases hk : (tk l j).kind = 1
            · obtain ⟨g1, g2⟩ := nameF_ok hk
              rw [g1] at hk'
              rw [g2]
              exact hk'
            · obtain ⟨g1, g2⟩ := nameF_bad hk
              rw [g1] at hk'
              rw [g2]
              exact ⟨_, hk'⟩)
          (fun ys j W h hj => by
            refine (HNX ys j true W h.1 hj h.2).mono ?_
            rintro e W' ⟨rfl, hk'⟩
            rw [nameF_true] at hk'
            exact ⟨rfl, _, hk'⟩)
          i2 b2 w9 HKN.out hi2)
        have x0 := cellRow HX9.out 0 (.pointer (some ⟨rb, 0, none⟩)) rfl
        clear HNX HB9 HX9 HR9 HE9
        go_wp2_with fail
        refine HLIST.out.mono ?_
        rintro e w10 ⟨rfl, hls⟩
        clear HLIST HKN x0
        obtain ⟨ys, j, b4, HK, HP, hj, hij⟩ : ∃ ys j b4, Hid (KN rb la lc (fun k => w1.heap.size + 1 ≤ k ∧ k < w2.heap.size) l ob (rb + 1) (ob + 1) nm w8 ys j b4 w10) ∧ Hid (b4 = true ∧ (if b2 = true then PR.bad i2 else pP (pN l) l i2) = .bad j ∨ b4 = false ∧ (if b2 = true then PR.bad i2 else pP (pN l) l i2) = .ok ys j) ∧ j < l.length ∧ i2 ≤ j := by
          have hbd : i2 ≤ (if b2 = true then PR.bad i2 else pP (pN l) l i2).at ∧ (if b2 = true then PR.bad i2 else pP (pN l) l i2).at < l.length := by
            cases b2
            · have := pP_fwd HEN.out (pN_fwd HEN.out) hi2
              rw [if_neg (by decide)]
              exact ⟨this.1, this.2.1⟩
            · rw [if_pos rfl]
              exact ⟨Nat.le_refl _, hi2⟩
          cases hp : (if b2 = true then PR.bad i2 else pP (pN l) l i2) with
          | bad j =>
            rw [hp] at hls hbd
            obtain ⟨ys, hy⟩ := hls
            exact ⟨ys, j, true, Lib.hid hy, Lib.hid (.inl ⟨rfl, rfl⟩), hbd.2, hbd.1⟩
          | ok ys j =>
            rw [hp] at hls hbd
            exact ⟨ys, j, false, Lib.hid hls, Lib.hid (.inr ⟨rfl, rfl⟩), hbd.2, hbd.1⟩
        clear hls
        have x0 := cellRow HK.out.rxx 0 (.pointer (some ⟨rb, 0, none⟩)) rfl
        have HTA := Lib.hid (take_x rb la lc (fun k => w1.heap.size + 1 ≤ k ∧ k < w2.heap.size) l j b4 sAr w10 HK.out.rd hj (by omega))
        have HI5 := Lib.hid (takeF_bd (b := b4) (s := sAr) HEN.out hj)
        obtain ⟨⟨j5, b5⟩, htf⟩ : ∃ p, takeF l j b4 sAr = p := ⟨_, rfl⟩
        rw [htf] at HTA HI5
        dsimp only at HI5
        have HTF := Lib.hid htf
        clear htf
        have hs3' : (⟨#[45, 62]⟩ : By) = sAr := rfl
        go_wp2_with fail
        try rw [hs3']
        refine HTA.out.mono ?_
        rintro e w11 ⟨rfl, hu11, hr11⟩
        obtain ⟨hj5, hjj5, hbb5⟩ := HI5.out
        have HK11 := Lib.hid (HK.out.to (by omega) (by omega) (by omega) hjj5 hbb5 hu11 hr11)
        have hln10 := HK.out.ln
        clear hu11 hr11 HTA HI5 x0 HK hs3'
        have x0 := cellRow HK11.out.rxx 0 (.pointer (some ⟨rb, 0, none⟩)) rfl
        have HNM := Lib.hid (name_x rb la lc (fun k => w1.heap.size + 1 ≤ k ∧ k < w2.heap.size) l j5 b5 w11 HK11.out.rd hj5 (by omega))
        have HI6 := Lib.hid (nameF_bd (b := b5) HEN.out hj5)
        obtain ⟨⟨r, j6, b6⟩, hnf⟩ : ∃ p, nameF l j5 b5 = p := ⟨_, rfl⟩
        rw [hnf] at HNM HI6
        dsimp only at HNM HI6
        have HNF2 := Lib.hid hnf
        clear hnf
        go_wp2_with fail
        refine HNM.out.mono ?_
        rintro e w12 ⟨rfl, hu12, hr12⟩
        obtain ⟨hj6, hjj6⟩ := HI6.out
        have HPD := Lib.hid (pD_of HNF.out HP.out HTF.out HNF2.out)
        obtain ⟨lv, hbx, hown⟩ := HK11.out.obx
        obtain ⟨ga, gc, hlv⟩ := own_shape hown
        subst hlv
        have HOW12 := Lib.hid (own_kept hown hu12 (fun k hk e => by have := (hown.lt k hk).1; omega))
        have HOB12 := Lib.hid (hu12.heap hbx (by omega))
        have HU12 : Hid (Upd (fun k => k = rb) w7 w12) := Lib.hid (HU8.out.trans' (HK11.out.up.trans (hu12.mono fun _ _ e => .inl e)) (fun k hk e => by rcases e with e | e <;> omega))
        have HR12 := Lib.hid hr12
        have hs12 : w8.heap.size ≤ w12.heap.size := Nat.le_trans HK11.out.up.size hu12.size
        clear hu12 hr12 hbx hown HNM HI6 HK11 x0 HNF HP HTF HNF2 HI2
        -- the store of the result's sort
        have hu13 := (Upd.refl (fun k => k = ob) w12).setCell (p := ⟨ob, 2, none⟩) (.inl rfl) (.string r)
        have HOB13 : Hid ((w12.setCell ⟨ob, 2, none⟩ (.string r)).heap[ob]? = some (.cells #[.string nm, .slice ga ys.length gc, .string r] 96 (0, 0))) := Lib.hid (by simpa using setBlock HOB12.out 2 (.string r))
        have HOW13 := Lib.hid (own_kept HOW12.out hu13 (fun k hk e => by have := (HOW12.out.lt k hk).1; omega))
        have HR13 := Lib.hid (HR12.out.keep hu13 (by omega) (fun k hk e => by have := HSN.out k hk; omega))
        have HU13 := Lib.hid (HU12.out.trans' hu13 (fun k hk e => by omega))
        have hs13 := hu13.size
        have o2 := cellRow HOB12.out 2 (.string ⟨#[]⟩) rfl
        have fo := fun j => frozenRow HOB12.out j
        clear hu13
        go_upto_region 15 with fail
        clear o2 fo
        generalize w12.setCell ⟨ob, 2, none⟩ (.string r) = w13 at *
        obtain ⟨oa, oc, hov⟩ := own_shape HJ7.out.own
        subst hov
        have HB13 := Lib.hid (HU13.out.heap HJ7.out.gbx (by omega))
        have HO13 := Lib.hid (own_kept HJ7.out.own HU13.out (fun k hk e => by have := (HJ7.out.own.lt k hk).1; omega))
        have hno : ¬ (Value.slice oa os.length oc).ownBlock = some (rb + 2) := fun e => by have := (HO13.out.lt _ e).1; omega
        have DBX : True := trivial
        have HU14 := Lib.hid (HU13.out.alloc (.cells #[.string nm, .slice ga ys.length gc, .string r] 96))
        have HR14 := Lib.hid (HR13.out.ext ((Upd.refl (fun _ => False) w13).alloc (.cells #[.string nm, .slice ga ys.length gc, .string r] 96)))
        have HO14 := Lib.hid (HO13.out.alloc (.cells #[.string nm, .slice ga ys.length gc, .string r] 96))
        have HB14 := Lib.hid (allocOld HB13.out (.cells #[.string nm, .slice ga ys.length gc, .string r] 96))
        have HW14 := Lib.hid (HOW13.out.alloc (.cells #[.string nm, .slice ga ys.length gc, .string r] 96))
        have hs14 := alloc_size w13 (.cells #[.string nm, .slice ga ys.length gc, .string r] 96)
        have hsz14 : w5.heap.size ≤ (w13.alloc (.cells #[.string nm, .slice ga ys.length gc, .string r] 96)).heap.size := Nat.le_trans HJ7.out.up.size HU14.out.size
        obtain ⟨i0, hi9, hz0, hz1, hz2⟩ := info_parts infoD
        have o0 := cellRow HOB13.out 0 (.string nm) rfl
        have o1 := cellRow HOB13.out 1 (.slice ga ys.length gc) rfl
        have o2 := cellRow HOB13.out 2 (.string r) rfl
        have g1 := cellRow HB13.out 1 (.slice oa os.length oc) rfl
        have hlo := HJ7.out.ln
        go_wp2_with (at_builtin; refine wpList_append_at _ rfl (.tmp 64) (.tmp 66) 40 rfl w5.heap.size 96 i0 (.agg #[.string ⟨#[]⟩, .slice none 0 0, .string ⟨#[]⟩]) 3 56 Tryz.underlying40 hi9 hz0 hz1 hz2 rfl (by decide) _ _ _ rfl HO14.out ⟨w13.heap.size, 0, none⟩ 1 1 [.string nm, .slice ga ys.length gc, .string r] rfl rfl ?c1 ?c2 ?c3 ?c4 hsz14 ?_)
        try (case c1 =>
          intro j u hj
          match j, hj with
          | 0, hj => simp at hj; subst hj; simp only [Addr.add]; exact cellRow (alloc0 _ _) 0 _ rfl
          | 1, hj => simp at hj; subst hj; simp only [Addr.add]; exact cellRow (alloc0 _ _) 1 _ rfl
          | 2, hj => simp at hj; subst hj; simp only [Addr.add]; exact cellRow (alloc0 _ _) 2 _ rfl)
        try (case c2 => first | (intro u hu; simp at hu; rcases hu with rfl | rfl | rfl <;> rfl) | exact ⟨rfl, rfl, rfl⟩)
        case c3 => unfold maxLen; omega
        case c4 => omega
        intro v' w15 hG
        have HJ15 := Lib.hid (HJ7.out.push (nm, ys, r) (U := fun k => (Value.slice ga ys.length gc).ownBlock = some k) (u := .slice ga ys.length gc) (by omega) (by omega) (by omega) (by omega) (by omega) (by omega) HSS5.out HTS.out HU14.out HR14.out (fun k hk => ⟨by have := (HW14.out.lt k hk).1; omega, (HW14.out.lt k hk).2⟩) (SlR.of_own HW14.out) (by
          show ys.length ≤ l.length
          cases b4 <;> simp at hln10 <;> omega) hG (by omega))
        obtain ⟨xa, xc, hxs⟩ := own_shape hG.own
        have hB15 := hG.upd.heap HB14.out hno
        have g2 := cellRow hB15 1 (.slice oa os.length oc) rfl
        have fb := fun j => frozenRow hB15 j
        clear hG hB15 o0 o1 o2 g1
        subst hxs
        go_wp2_with fail
        generalize w15.setCell ⟨rb + 2, 1, none⟩ (.slice xa (os.length + 1) xc) = wz at *
        have HQ3 : Hid ((if b6 = true then .bad j6 else pG3 xs (pM (pD l) wOp l m j6 (os ++ [(nm, ys, r)]))) = Q2) := Lib.hid (by
          have h3 := HQ2.out
          rcases HPD.out with ⟨rfl, h4⟩ | ⟨rfl, h4⟩
          · rw [h4] at h3
            rw [if_pos rfl]
            exact h3
          · rw [h4] at h3
            rw [if_neg (by decide)]
            exact h3)
        go_roundg (if b6 = true then 0 else l.length - j6)
        case measure =>
          cases b6 <;> simp <;> omega
        case rel => exact ⟨_, _, _, _, j6, b6, m, rfl, hj6, by omega, HJ15, HQ3⟩
      have HE1 : Hid ((endF l i b).2 ≠ 0 ∧ R = (nulG, (endF l i b).1, (endF l i b).2) ∨ endF l i b = ((0, 0), 0) ∧ R = (if vsgB nmB (xs, os) = true then ((xs, os), (0, 0), 0) else (nulG, (0, 0), 1))) := Lib.hid (by
        have h2 := HRR.out
        rw [← HQ.out] at h2
        cases b
        · obtain ⟨m, rfl⟩ : ∃ m', m = m' + 1 := ⟨m - 1, by omega⟩
          have hkw : ¬ isB (tk l i) wOp = true := by have := HC.out; simpa using this
          rw [if_neg (by decide), pM, if_neg hkw] at h2
          dsimp only [pG3] at h2
          by_cases hk : (tk l i).kind = 5
          · rw [if_neg (fun h => h hk)] at h2
            exact .inr ⟨by unfold endF; rw [if_pos ⟨rfl, hk⟩], h2.symm⟩
          · rw [if_pos hk] at h2
            refine .inl ⟨?_, ?_⟩
            · unfold endF
              rw [if_neg (fun h => hk h.2), if_neg hk]
              show (7 : Int) ≠ 0
              decide
            · unfold endF
              rw [if_neg (fun h => hk h.2), if_neg hk]
              exact h2.symm
        · rw [if_pos rfl] at h2
          dsimp only at h2
          refine .inl ⟨?_, ?_⟩
          · unfold endF
            rw [if_neg (fun h => by cases h.1)]
            show (if _ then (8 : Int) else 7) ≠ 0
            split <;> decide
          · unfold endF
            rw [if_neg (fun h => by cases h.1)]
            exact h2.symm)
      clear HRR HQ HC
      obtain ⟨⟨⟨ln, cl⟩, er⟩, hef⟩ : ∃ q, endF l i b = q := ⟨_, rfl⟩
      have HEND : Hid (Calls Tryz.prog 64 #[.pointer (some ⟨rb, 0, none⟩)] w6 fun e w' => e = .returned (.tuple #[.agg #[.int .i64 ln, .int .i64 cl], .int .i64 er]) ∧ Ext w6 w') := Lib.hid (by
        have := end_g rb la lc _ l i b w6 HJ6.out.rd hi (by omega)
        rw [hef] at this
        exact this)
      rw [hef] at HE1
      clear hef
      go_wp2_with fail
      refine HEND.out.mono ?_
      rintro e w7 ⟨rfl, hw7⟩
      have HE7 := Lib.hid (hw7.alloc (.cells #[.int .i64 ln, .int .i64 cl] 45))
      have HJ7 := Lib.hid (HJ6.out.to (by omega) (by omega) (by omega) (fun k hk => (HTS.out k hk).2.1) (HE7.out.mono (fun _ _ h => h.elim)) (HJ6.out.rd.ext HE7.out) (Nat.le_refl _))
      have HA7 := Lib.hid (alloc0 w7 (.cells #[.int .i64 ln, .int .i64 cl] 45))
      have HZ7 := Lib.hid (HJ7.out.up.heap HZ5.out (fun e => by rcases e with e | e <;> omega))
      have HQ7 := Lib.hid (HJ7.out.up.heap HQ5.out (fun e => by rcases e with e | e <;> omega))
      have HU7 : Hid (Ext w (w7.alloc (.cells #[.int .i64 ln, .int .i64 cl] 45))) := Lib.hid (HW5.out.trans' HJ7.out.up (fun k hk e => by rcases e with e | e <;> omega))
      have hs7 := HJ7.out.up.size
      have hs7' := alloc_size w7 (.cells #[.int .i64 ln, .int .i64 cl] 45)
      clear hw7 HEND x0 HJ6 HE7
      rcases HE1.out with ⟨her, hv⟩ | ⟨hee, hv⟩
      · have HV := Lib.hid hv
        have t1 : (er == 0) = false := beq_eq_false_iff_ne.2 her
        have t2 : (er != 0) = true := bne_iff_ne.2 her
        clear HE1 her hv
        go_upto_region 18 with fail
        obtain ⟨ab, hab⟩ : ∃ x, w7.heap.size = x := ⟨_, rfl⟩
        rw [hab] at HA7
        try rw [hab]
        generalize (w7.alloc (.cells #[.int .i64 ln, .int .i64 cl] 45)) = w8 at *
        have z0 := cellRow HZ7.out 0 (.slice none 0 0) rfl
        have z1 := cellRow HZ7.out 1 (.slice none 0 0) rfl
        have p0 := cellRow HQ7.out 0 (.int .i64 0) rfl
        have p1 := cellRow HQ7.out 1 (.int .i64 0) rfl
        have a0 := cellRow HA7.out 0 (.int .i64 ln) rfl
        have a1 := cellRow HA7.out 1 (.int .i64 cl) rfl
        have fz := fun j => frozenRow HZ7.out j
        have fp := fun j => frozenRow HQ7.out j
        go_region
        go_wp2_with fail
        have hz := st2_heap HZ7.out (.slice none 0 0) (.slice none 0 0)
        have huz := st2_upd w8 b0 (.slice none 0 0) (.slice none 0 0)
        have hq := st2_heap (huz.heap HQ7.out (by omega)) (.int .i64 (ln)) (.int .i64 (cl))
        have huq := st2_upd (((w8).setCell ⟨b0, 0, none⟩ (.slice none 0 0)).setCell ⟨b0, 1, none⟩ (.slice none 0 0)) (b0 + 1) (.int .i64 (ln)) (.int .i64 (cl))
        have hz2 := huq.heap hz (by omega)
        have e0 := cellRow hz2 0 _ rfl
        have e1 := cellRow hz2 1 _ rfl
        have e3 := cellRow hq 0 _ rfl
        have e4 := cellRow hq 1 _ rfl
        refine bodyPost_ret (v := .tuple #[.agg #[.slice none 0 0, .slice none 0 0], .agg #[.int .i64 (ln), .int .i64 (cl)], .int .i64 (er)]) (by simp [results, Tryz.results19, go_sem, e0, e1, e3, e4]) rfl ?_
        rw [HV.out]
        exact ⟨.agg #[.slice none 0 0, .slice none 0 0], rfl, nulG_r _ _, ((HU7.out.trans' huz (fun k hk e => by omega)).trans' huq (fun k hk e => by omega)).drew⟩
      injection hee with hee e3
      injection hee with e1 e2
      subst e1; subst e2; subst e3
      have HV := Lib.hid hv
      clear HE1 hv
      go_upto_region 19 with fail
      generalize (w7.alloc (.cells #[.int .i64 0, .int .i64 0] 45)) = w8 at *
      have HSG := Lib.hid (HJ7.out.sg (n0 := b0 + 2) (fun k hk => ⟨by have := HTN.out k hk; omega, (HTS.out k hk).1⟩) (by omega))
      obtain ⟨oa, oc, hov, hsg⟩ := HSG.out
      subst hov
      have HSG := Lib.hid hsg
      clear hsg
      have g0 := cellRow HJ7.out.gbx 0 (.slice sa xs.length sc) rfl
      have g1 := cellRow HJ7.out.gbx 1 (.slice oa os.length oc) rfl
      have HVS := Lib.hid (pvsig_x (xs, os) _ _ w8 HSG.out (asc_ext HTAB.out HU7.out) (by show xs.length ≤ _; omega) (by show os.length ≤ _; have := HJ7.out.ln; omega) (fun d hd => by have := HJ7.out.al d hd; omega))
      obtain ⟨vb, hvb⟩ : ∃ c, vsgB nmB (xs, os) = c := ⟨_, rfl⟩
      rw [hvb] at HV HVS
      clear hvb
      go_wp2_with fail
      refine HVS.out.mono ?_
      rintro e w9 ⟨rfl, hw9⟩
      have HZ9 := Lib.hid (hw9.heap HZ7.out (fun h => h))
      have HQ9 := Lib.hid (hw9.heap HQ7.out (fun h => h))
      have HU9 := Lib.hid (HU7.out.trans hw9)
      have HG9 := Lib.hid (hw9.heap HJ7.out.gbx (fun h => h))
      have HSG9 := Lib.hid (SgR.ext HSG.out hw9)
      have hs9 := hw9.size
      clear hw9 HVS g0 g1 HSG HJ7 HZ7 HQ7 HU7
      cases vb
      · have HV2 : Hid (R = (nulG, (0, 0), 1)) := Lib.hid (by rw [HV.out, if_neg (by decide)])
        clear HV
        have z0 := cellRow HZ9.out 0 (.slice none 0 0) rfl
        have z1 := cellRow HZ9.out 1 (.slice none 0 0) rfl
        have p0 := cellRow HQ9.out 0 (.int .i64 0) rfl
        have p1 := cellRow HQ9.out 1 (.int .i64 0) rfl
        have fz := fun j => frozenRow HZ9.out j
        have fp := fun j => frozenRow HQ9.out j
        go_wp2_with fail
        have hz := st2_heap HZ9.out (.slice none 0 0) (.slice none 0 0)
        have huz := st2_upd w9 b0 (.slice none 0 0) (.slice none 0 0)
        have hq := st2_heap (huz.heap HQ9.out (by omega)) (.int .i64 (0)) (.int .i64 (0))
        have huq := st2_upd (((w9).setCell ⟨b0, 0, none⟩ (.slice none 0 0)).setCell ⟨b0, 1, none⟩ (.slice none 0 0)) (b0 + 1) (.int .i64 (0)) (.int .i64 (0))
        have hz2 := huq.heap hz (by omega)
        have e0 := cellRow hz2 0 _ rfl
        have e1 := cellRow hz2 1 _ rfl
        have e3 := cellRow hq 0 _ rfl
        have e4 := cellRow hq 1 _ rfl
        refine bodyPost_ret (v := .tuple #[.agg #[.slice none 0 0, .slice none 0 0], .agg #[.int .i64 (0), .int .i64 (0)], .int .i64 (1)]) (by simp [results, Tryz.results19, go_sem, e0, e1, e3, e4]) rfl ?_
        rw [HV2.out]
        exact ⟨.agg #[.slice none 0 0, .slice none 0 0], rfl, nulG_r _ _, (HU9.out.trans' huz (fun k hk e => by omega)).trans' huq (fun k hk e => by omega)⟩
      · have HV2 : Hid (R = ((xs, os), (0, 0), 0)) := Lib.hid (by rw [HV.out, if_pos rfl])
        clear HV
        have g0 := cellRow HG9.out 0 (.slice sa xs.length sc) rfl
        have g1 := cellRow HG9.out 1 (.slice oa os.length oc) rfl
        have z0 := cellRow HZ9.out 0 (.slice none 0 0) rfl
        have z1 := cellRow HZ9.out 1 (.slice none 0 0) rfl
        have p0 := cellRow HQ9.out 0 (.int .i64 0) rfl
        have p1 := cellRow HQ9.out 1 (.int .i64 0) rfl
        have fz := fun j => frozenRow HZ9.out j
        have fp := fun j => frozenRow HQ9.out j
        go_wp2_with fail
        have hz := st2_heap HZ9.out (.slice sa xs.length sc) (.slice oa os.length oc)
        have huz := st2_upd w9 b0 (.slice sa xs.length sc) (.slice oa os.length oc)
        have hq := st2_heap (huz.heap HQ9.out (by omega)) (.int .i64 (0)) (.int .i64 (0))
        have huq := st2_upd (((w9).setCell ⟨b0, 0, none⟩ (.slice sa xs.length sc)).setCell ⟨b0, 1, none⟩ (.slice oa os.length oc)) (b0 + 1) (.int .i64 (0)) (.int .i64 (0))
        have hz2 := huq.heap hz (by omega)
        have e0 := cellRow hz2 0 _ rfl
        have e1 := cellRow hz2 1 _ rfl
        have e3 := cellRow hq 0 _ rfl
        have e4 := cellRow hq 1 _ rfl
        refine bodyPost_ret (v := .tuple #[.agg #[.slice sa xs.length sc, .slice oa os.length oc], .agg #[.int .i64 (0), .int .i64 (0)], .int .i64 (0)]) (by simp [results, Tryz.results19, go_sem, e0, e1, e3, e4]) rfl ?_
        have hsa := huz.size
        have hsb := huq.size
        rw [HV2.out]
        have hsg := SgR.kept2 (SgR.kept2 HSG9.out huz (fun k hk e => by have := hk.1; omega)) huq (fun k hk e => by have := hk.1; omega)
        obtain ⟨qa, qc, ra, rc, he, h1, h2⟩ := hsg
        exact ⟨_, rfl, ⟨qa, qc, ra, rc, he, SlR.weaken h1 (fun k hk => ⟨by have := hk.1; omega, by have := hk.2; omega⟩), h2.weaken (fun k hk => ⟨by have := hk.1; omega, by have := hk.2; omega⟩)⟩, (HU9.out.trans' huz (fun k hk e => by omega)).trans' huq (fun k hk e => by omega)⟩

end Go.Proofs.YtjjaknmnhhfjeaaGreatDoor

/- The builder with its blocks. -/
namespace Go.Proofs.YtjjaknmnhhfjeaaGreatDoor
open Go.RowKit Go.Hw Go Go.Sort Go.Proofs Go.ChangeMaps
set_option linter.unusedVariables false
set_option linter.unusedSimpArgs false

open Tm
section
variable {P : Program} (w : World)
end
def BdS (S : Nat → Prop) (b : Nat) (l : List UInt8) (w : World) : Prop := (∀ k, S k → k < w.heap.size) ∧ S b ∧ ∃ p v, (p = .pointer none ∨ p = .pointer (some ⟨b, 0, none⟩)) ∧ w.heap[b]? = some (.cells #[p, v] 120 (0, 0)) ∧ w.ownsRow 0 5 1 v l.length (Lib.byteCells l) ∧ v.ownBlock ≠ some b ∧ ∀ k, v.ownBlock = some k → S k
theorem BdS.ext {S : Nat → Prop} {b : Nat} {l : List UInt8} {w w' : World} (h : BdS S b l w) (hE : Ext w w') : BdS S b l w' := by
  obtain ⟨h1, h2, p, v, h3, h4, h5, h6, h7⟩ := h
  exact ⟨fun k hk => Nat.lt_of_lt_of_le (h1 k hk) hE.size, h2, p, v, h3, hE.heap h4 (fun h => h), own_kept h5 hE (fun _ _ h => h), h6, h7⟩
def BdG (S : Nat → Prop) (b : Nat) (l : List UInt8) (w w' : World) : Prop := ∃ S', BdS S' b l w' ∧ (∀ k, S' k → S k ∨ w.heap.size ≤ k) ∧ Upd S w w'
theorem BdG.trans {S : Nat → Prop} {b : Nat} {l m : List UInt8} {w w1 w2 : World} (h : BdG S b l w w1) (h2 : ∀ S1, BdS S1 b l w1 → BdG S1 b m w1 w2) : BdG S b m w w2 := by
  obtain ⟨S1, h1, hs, hu⟩ := h
  obtain ⟨S2, g1, gs, gu⟩ := h2 S1 h1
  have hz := hu.size
  exact ⟨S2, g1, fun k hk => (gs k hk).elim (fun h => hs k h) (fun h => .inr (by omega)), hu.trans' gu (fun k hk e => (hs k e).elim (fun h => h) (fun h => by omega))⟩
end Go.Proofs.YtjjaknmnhhfjeaaGreatDoor
