/- The texts Y55 Y56 Y57, one behind the other. -/
import Derived.Test.YtjjaknmnhhfjeaaGreatDoorKBG
/- Declaration of the reference. -/
namespace Go.Proofs.YtjjaknmnhhfjeaaGreatDoor
open Go.RowKit Go.Hw Go Go.Sort Go.Proofs Go.ChangeMaps
set_option linter.unusedVariables false
set_option linter.unusedSimpArgs false

open Tm
def DrP (n0 : Nat) : PR Dc → Ending → World → World → Prop
  | .ok d j, e, w, w' => ∃ u, e = .returned (.tuple #[.agg #[.string d.1, u, .string d.2.2], .int .i64 (j : Int), .bool true]) ∧ StrR (fun k => w.heap.size ≤ k ∧ k < w'.heap.size) w' u d.2.1 ∧ d.2.1.length ≤ n0 ∧ Ext w w'
  | .bad j, e, w, w' => e = .returned (.tuple #[.agg #[.string ⟨#[]⟩, .slice none 0 0, .string ⟨#[]⟩], .int .i64 (j : Int), .bool false]) ∧ Ext w w'
def pD2 (l : List Tok) (nm : By) : PR (List By) → PR Dc
  | .bad j => .bad j
  | .ok az i2 => if isB (tk l i2) sAr = true then (match pN l (i2 + 1) with
      | .bad j => .bad j
      | .ok r i3 => .ok (nm, az, r) i3) else .bad i2
theorem pD_ok {l : List Tok} {i : Nat} (h : (tk l i).kind = 1) : pD l i = pD2 l (tk l i).text (pP (pN l) l (i + 1)) := by
  obtain ⟨_, g⟩ := nameF_ok h
  unfold pD
  rw [g]
  dsimp only
  cases pP (pN l) l (i + 1) <;> rfl
set_option maxRecDepth 100000 in
set_option maxHeartbeats 8000000 in
theorem rdecl_x (la : Option Addr) (lc : Nat) (S : Nat → Prop) (l : List Tok) (hE : Ended l) (hok : ∀ i, TkOk (tk l i)) (hl : l.length ≤ 1000000) (i : Nat) (w : World) (hR : TkR S w (.slice la l.length lc) l) (hi : i < l.length) :
    Calls Tryz.prog 106 #[.slice la l.length lc, .int .i64 (i : Int)] w fun e w' => DrP l.length (pD l i) e w w' := by
  have HNA : Hid (∀ W, Ext w W → ∀ j m, j < l.length → l.length - j ≤ m → Calls Tryz.prog 130 #[.slice la l.length lc, .int .i64 (j : Int)] W fun e w' => NmP (pL (pN l) l (m + 1) j true []) e W w') := Lib.hid (fun W hW j m hj hm => rnames_x la lc S l hE hok hl j m W (hR.ext hW) hj hm)
  obtain ⟨gg, off, hga, _, hat⟩ := (TkR.at_ hR (Nat.lt_of_le_of_lt (Nat.zero_le _) hi)).2
  have HC : Hid (∀ W, Ext w W → ∀ j, j < l.length → W.cell? ⟨gg, off + j * 5, none⟩ = some (.int .i64 ((tq l j).kind : Int)) ∧ W.cell? ⟨gg, off + j * 5 + 1, none⟩ = some (.string (tq l j).text) ∧ W.cell? ⟨gg, off + j * 5 + 2, none⟩ = some (.int .i64 (tq l j).n) ∧ W.cell? ⟨gg, off + j * 5 + 3, none⟩ = some (.int .i64 (tq l j).line) ∧ W.cell? ⟨gg, off + j * 5 + 4, none⟩ = some (.int .i64 (tq l j).col)) := Lib.hid (fun W hW j hj => by
    obtain ⟨q0, q1, q2, q3, q4⟩ := hat j hj
    exact ⟨hW.cell q0 (fun h => h), hW.cell q1 (fun h => h), hW.cell q2 (fun h => h), hW.cell q3 (fun h => h), hW.cell q4 (fun h => h)⟩)
  subst hga
  have HIS : Hid (∀ (j : Nat) (s : By) (W : World), kwB s = false → Calls Tryz.prog 105 #[.agg #[.int .i64 ((tq l j).kind : Int), .string (tq l j).text, .int .i64 (tq l j).n, .int .i64 (tq l j).line, .int .i64 (tq l j).col], .int .i64 4, .string s] W fun e W' => e = .returned (.bool (isB (tq l j) s)) ∧ Ext W W') := Lib.hid (fun j s W hs => by
    have h9 : isB (tq l j) s = (decide ((tq l j).kind = 4) && decide ((tq l j).text = s)) := is4 (hok j) hs
    rw [h9]
    exact rIs_x (tq l j) 4 s W)
  have HEN := Lib.hid hE
  obtain ⟨Q, hQ⟩ : ∃ Q, pD l i = Q := ⟨_, rfl⟩
  rw [hQ]
  have HQ := Lib.hid hQ
  have HE1 := Lib.hid ((Upd.refl (fun _ => False) w).alloc (.cells #[.string ⟨#[]⟩, .slice none 0 0, .string ⟨#[]⟩] 96))
  have HZ1 := Lib.hid (alloc0 w (.cells #[.string ⟨#[]⟩, .slice none 0 0, .string ⟨#[]⟩] 96))
  have hz1 := alloc_size w (.cells #[.string ⟨#[]⟩, .slice none 0 0, .string ⟨#[]⟩] 96)
  obtain ⟨rb, hrb⟩ : ∃ rb, w.heap.size = rb := ⟨_, rfl⟩
  rw [hrb] at HZ1
  have HK := Lib.hid kw_no
  clear hR hat hQ
  go_enter Tryz.func106, Tryz.ntmps106
  have i0 : (0 : Int) ≤ (i : Int) := by omega
  have i1' : (i : Int) < (l.length : Int) := by omega
  obtain ⟨q0, q1, q2, q3, q4⟩ := HC.out (w.alloc (.cells #[.string ⟨#[]⟩, .slice none 0 0, .string ⟨#[]⟩] 96)) HE1.out i hi
  by_cases hk1 : (tq l i).kind = 1
  case neg =>
    have HV : Hid (Q = .bad i) := Lib.hid (by
      obtain ⟨_, g⟩ := nameF_bad (show (tk l i).kind ≠ 1 from hk1)
      rw [← HQ.out, pD, g])
    have t1 : (((tq l i).kind : Int) == 1) = false := beq_eq_false_iff_ne.2 (by omega)
    have t2 : (((tq l i).kind : Int) != 1) = true := bne_iff_ne.2 (by omega)
    go_upto_region 1 with fail
    try rw [hrb]
    generalize w.alloc (.cells #[.string ⟨#[]⟩, .slice none 0 0, .string ⟨#[]⟩] 96) = w1 at *
    have z0 := cellRow HZ1.out 0 (.string ⟨#[]⟩) rfl
    have z1 := cellRow HZ1.out 1 (.slice none 0 0) rfl
    have z2 := cellRow HZ1.out 2 (.string ⟨#[]⟩) rfl
    have fz := fun j => frozenRow HZ1.out j
    go_wp2_with fail
    have hz := st3_heap HZ1.out (.string ⟨#[]⟩) (.slice none 0 0) (.string ⟨#[]⟩)
    have huz := st3_upd' w1 rb (.string ⟨#[]⟩) (.slice none 0 0) (.string ⟨#[]⟩)
    have e0 := cellRow hz 0 _ rfl
    have e1 := cellRow hz 1 _ rfl
    have e2 := cellRow hz 2 _ rfl
    refine bodyPost_ret (v := .tuple #[.agg #[.string ⟨#[]⟩, .slice none 0 0, .string ⟨#[]⟩], .int .i64 ((i : Int)), .bool false]) (by simp [results, Tryz.results106, go_sem, e0, e1, e2]) rfl ?_
    rw [HV.out]
    exact ⟨rfl, HE1.out.trans' huz (fun j hj e => by omega)⟩
  have hk1i : ((tq l i).kind : Int) = 1 := by omega
  rw [hk1i] at q0
  have hi1 := HEN.out.next hi (by show ¬ (tq l i).kind = 5; omega)
  have HQ1 : Hid (Q = pD2 l (tq l i).text (pP (pN l) l (i + 1))) := Lib.hid (by rw [← HQ.out, pD_ok (show (tk l i).kind = 1 from hk1)]; rfl)
  obtain ⟨nm, hnm⟩ : ∃ nm, (tq l i).text = nm := ⟨_, rfl⟩
  rw [hnm] at q1 HQ1
  have HE2 := Lib.hid (HE1.out.alloc (.cells #[.string nm, .slice none 0 0, .string ⟨#[]⟩] 96))
  have HZ2 := Lib.hid (allocOld HZ1.out (.cells #[.string nm, .slice none 0 0, .string ⟨#[]⟩] 96))
  have HT2 := Lib.hid (alloc_at (w.alloc (.cells #[.string ⟨#[]⟩, .slice none 0 0, .string ⟨#[]⟩] 96)) (.cells #[.string nm, .slice none 0 0, .string ⟨#[]⟩] 96) (n := rb + 1) (by rw [hz1, hrb]))
  have hz2 := alloc_size (w.alloc (.cells #[.string ⟨#[]⟩, .slice none 0 0, .string ⟨#[]⟩] 96)) (.cells #[.string nm, .slice none 0 0, .string ⟨#[]⟩] 96)
  have hzz : (w.alloc (.cells #[.string ⟨#[]⟩, .slice none 0 0, .string ⟨#[]⟩] 96)).heap.size = rb + 1 := by rw [hz1, hrb]
  have hW2 : ((w.alloc (.cells #[.string ⟨#[]⟩, .slice none 0 0, .string ⟨#[]⟩] 96)).alloc (.cells #[.string nm, .slice none 0 0, .string ⟨#[]⟩] 96)).heap.size = rb + 2 := by omega
  clear hnm hk1i hk1 HQ
  go_upto_region 4 with fail
  try rw [hrb]
  try rw [hzz]
  obtain ⟨tb, htb⟩ : ∃ tb, rb + 1 = tb := ⟨_, rfl⟩
  rw [htb] at HT2
  try rw [htb]
  clear hz2 hzz hz1 q0 q1 q2 q3 q4
  generalize ((w.alloc (.cells #[.string ⟨#[]⟩, .slice none 0 0, .string ⟨#[]⟩] 96)).alloc (.cells #[.string nm, .slice none 0 0, .string ⟨#[]⟩] 96)) = w2 at *
  obtain ⟨i2, hi2⟩ : ∃ q, i + 1 = q := ⟨_, rfl⟩
  have hwi2 : IntKind.i64.wrap ((i : Int) + 1) = (i2 : Int) := by rw [IntWalk.i64_in _ (by omega)]; omega
  rw [hi2] at hi1 HQ1
  clear i0 i1'
  have i0 : (0 : Int) ≤ (i2 : Int) := by omega
  have i1' : (i2 : Int) < (l.length : Int) := by omega
  obtain ⟨q0, q1, q2, q3, q4⟩ := HC.out w2 HE2.out i2 hi1
  go_wp2_with fail
  refine (HIS.out i2 sLp w2 HK.out.2.1).mono ?_
  rintro e w3 ⟨rfl, h⟩
  have HZ3 := Lib.hid (h.heap HZ2.out (fun h => h))
  have HT3 := Lib.hid (h.heap HT2.out (fun h => h))
  have HE3 := Lib.hid (HE2.out.trans h)
  have hs3 := h.size
  clear h q0 q1 q2 q3 q4 HZ2 HT2
  obtain ⟨c, hc⟩ : ∃ c, isB (tq l i2) sLp = c := ⟨_, rfl⟩
  rw [hc]
  have HCC : Hid (isB (tk l i2) sLp = c) := Lib.hid hc
  clear hc
  cases c
  case false =>
    have HV : Hid (Q = .bad i2) := Lib.hid (by rw [HQ1.out, pP, if_neg (by rw [HCC.out]; decide)]; rfl)
    have z0 := cellRow HZ3.out 0 (.string ⟨#[]⟩) rfl
    have z1 := cellRow HZ3.out 1 (.slice none 0 0) rfl
    have z2 := cellRow HZ3.out 2 (.string ⟨#[]⟩) rfl
    have fz := fun j => frozenRow HZ3.out j
    go_wp2_with fail
    have hz := st3_heap HZ3.out (.string ⟨#[]⟩) (.slice none 0 0) (.string ⟨#[]⟩)
    have huz := st3_upd' w3 rb (.string ⟨#[]⟩) (.slice none 0 0) (.string ⟨#[]⟩)
    have e0 := cellRow hz 0 _ rfl
    have e1 := cellRow hz 1 _ rfl
    have e2 := cellRow hz 2 _ rfl
    refine bodyPost_ret (v := .tuple #[.agg #[.string ⟨#[]⟩, .slice none 0 0, .string ⟨#[]⟩], .int .i64 ((i2 : Int)), .bool false]) (by simp [results, Tryz.results106, go_sem, e0, e1, e2]) rfl ?_
    rw [HV.out]
    exact ⟨rfl, HE3.out.trans' huz (fun j hj e => by omega)⟩
  have hi3' := HEN.out.isB hi1 HCC.out
  obtain ⟨i3, hi3⟩ : ∃ q, i + 2 = q := ⟨_, rfl⟩
  have hwi3 : IntKind.i64.wrap ((i : Int) + 2) = (i3 : Int) := by rw [IntWalk.i64_in _ (by omega)]; omega
  have hi3l : i3 < l.length := by omega
  obtain ⟨m0, hm0⟩ : ∃ m0, l.length - i2 = m0 + 1 := ⟨l.length - i2 - 1, by omega⟩
  have HQ2 : Hid (Q = pD2 l nm (pL (pN l) l (m0 + 1) i3 true [])) := Lib.hid (by rw [HQ1.out, pP, if_pos HCC.out, hm0, show i2 + 1 = i3 by omega])
  have HNM := Lib.hid (HNA.out w3 HE3.out i3 m0 hi3l (by omega))
  have hfw := pL_fwd HEN.out (pN_fwd HEN.out) (m0 + 1) i3 true [] hi3l
  obtain ⟨R, hR⟩ : ∃ R, pL (pN l) l (m0 + 1) i3 true [] = R := ⟨_, rfl⟩
  rw [hR] at HQ2 HNM hfw
  clear hR hi3' HQ1 HCC i0 i1'
  go_wp2_with fail
  refine HNM.out.mono ?_
  cases R with
  | bad k =>
    rintro e w4 ⟨rfl, h⟩
    have HV : Hid (Q = .bad k) := Lib.hid HQ2.out
    have HZ4 := Lib.hid (h.heap HZ3.out (fun h => h))
    have HE4 := Lib.hid (HE3.out.trans h)
    clear h HNM
    go_upto_region 8 with fail
    have z0 := cellRow HZ4.out 0 (.string ⟨#[]⟩) rfl
    have z1 := cellRow HZ4.out 1 (.slice none 0 0) rfl
    have z2 := cellRow HZ4.out 2 (.string ⟨#[]⟩) rfl
    have fz := fun j => frozenRow HZ4.out j
    go_wp2_with fail
    have hz := st3_heap HZ4.out (.string ⟨#[]⟩) (.slice none 0 0) (.string ⟨#[]⟩)
    have huz := st3_upd' w4 rb (.string ⟨#[]⟩) (.slice none 0 0) (.string ⟨#[]⟩)
    have e0 := cellRow hz 0 _ rfl
    have e1 := cellRow hz 1 _ rfl
    have e2 := cellRow hz 2 _ rfl
    refine bodyPost_ret (v := .tuple #[.agg #[.string ⟨#[]⟩, .slice none 0 0, .string ⟨#[]⟩], .int .i64 ((k : Int)), .bool false]) (by simp [results, Tryz.results106, go_sem, e0, e1, e2]) rfl ?_
    rw [HV.out]
    exact ⟨rfl, HE4.out.trans' huz (fun j hj e => by omega)⟩
  | ok ys k =>
    rintro e w4 ⟨v, rfl, hys, hyl, h⟩
    have hkl : k < l.length := hfw.2
    obtain ⟨ya, yc, hy⟩ := SlR.shape hys
    subst hy
    have HYS := Lib.hid hys
    have HZ4 := Lib.hid (h.heap HZ3.out (fun h => h))
    have HT4 := Lib.hid (h.heap HT3.out (fun h => h))
    have HE4 := Lib.hid (HE3.out.trans h)
    have hs4 := h.size
    clear h HNM hys hfw
    have t1 := cellRow HT4.out 1 (.slice none 0 0) rfl
    have ft := fun j => frozenRow HT4.out j
    have hbt := setBlock HT4.out 1 (.slice ya ys.length yc)
    have hut := (Upd.refl (fun k => k = tb) w4).setCell (p := ⟨tb, 1, none⟩) (.inl rfl) (.slice ya ys.length yc)
    have HT5 : Hid ((w4.setCell ⟨tb, 1, none⟩ (.slice ya ys.length yc)).heap[tb]? = some (.cells #[.string nm, .slice ya ys.length yc, .string ⟨#[]⟩] 96 (0, 0))) := Lib.hid (by simpa using hbt)
    have HZ5 := Lib.hid (hut.heap HZ4.out (by omega))
    have HE5 := Lib.hid (HE4.out.trans' hut (fun j hj e => by omega))
    have HY5 := Lib.hid (SlR.kept HYS.out hut (fun k hk e => by have := hk.1; omega))
    have hs5 := hut.size
    clear hbt hut
    go_upto_region 10 with fail
    clear t1 ft
    generalize w4.setCell ⟨tb, 1, none⟩ (.slice ya ys.length yc) = w5 at *
    have i0 : (0 : Int) ≤ (k : Int) := by omega
    have i1' : (k : Int) < (l.length : Int) := by omega
    have HQ3 : Hid (Q = if isB (tk l k) sAr = true then (match pN l (k + 1) with
      | .bad j => .bad j
      | .ok r i3 => .ok (nm, ys, r) i3) else .bad k) := Lib.hid HQ2.out
    obtain ⟨q0, q1, q2, q3, q4⟩ := HC.out w5 HE5.out k hkl
    go_wp2_with fail
    refine (HIS.out k sAr w5 HK.out.2.2.2.2.1).mono ?_
    rintro e w6 ⟨rfl, h⟩
    have HZ6 := Lib.hid (h.heap HZ5.out (fun h => h))
    have HT6 := Lib.hid (h.heap HT5.out (fun h => h))
    have HE6 := Lib.hid (HE5.out.trans h)
    have HY6 := Lib.hid (SlR.kept HY5.out h (fun _ _ h => h))
    have hs6 := h.size
    clear h q0 q1 q2 q3 q4 HZ5 HT5 HQ2
    obtain ⟨c, hc⟩ : ∃ c, isB (tq l k) sAr = c := ⟨_, rfl⟩
    rw [hc]
    have HCC : Hid (isB (tk l k) sAr = c) := Lib.hid hc
    clear hc
    cases c
    case false =>
      have HV : Hid (Q = .bad k) := Lib.hid (by rw [HQ3.out, if_neg (by rw [HCC.out]; decide)])
      have z0 := cellRow HZ6.out 0 (.string ⟨#[]⟩) rfl
      have z1 := cellRow HZ6.out 1 (.slice none 0 0) rfl
      have z2 := cellRow HZ6.out 2 (.string ⟨#[]⟩) rfl
      have fz := fun j => frozenRow HZ6.out j
      go_wp2_with fail
      have hz := st3_heap HZ6.out (.string ⟨#[]⟩) (.slice none 0 0) (.string ⟨#[]⟩)
      have huz := st3_upd' w6 rb (.string ⟨#[]⟩) (.slice none 0 0) (.string ⟨#[]⟩)
      have e0 := cellRow hz 0 _ rfl
      have e1 := cellRow hz 1 _ rfl
      have e2 := cellRow hz 2 _ rfl
      refine bodyPost_ret (v := .tuple #[.agg #[.string ⟨#[]⟩, .slice none 0 0, .string ⟨#[]⟩], .int .i64 ((k : Int)), .bool false]) (by simp [results, Tryz.results106, go_sem, e0, e1, e2]) rfl ?_
      rw [HV.out]
      exact ⟨rfl, HE6.out.trans' huz (fun j hj e => by omega)⟩
    have hk2' := HEN.out.isB hkl HCC.out
    obtain ⟨k2, hk2⟩ : ∃ q, k + 1 = q := ⟨_, rfl⟩
    have hwk2 : IntKind.i64.wrap ((k : Int) + 1) = (k2 : Int) := by rw [IntWalk.i64_in _ (by omega)]; omega
    rw [hk2] at hk2'
    have HQ4 : Hid (Q = (match pN l k2 with
      | .bad j => .bad j
      | .ok r i3 => .ok (nm, ys, r) i3)) := Lib.hid (by rw [HQ3.out, if_pos HCC.out, hk2])
    clear HQ3 i0 i1'
    have i0 : (0 : Int) ≤ (k2 : Int) := by omega
    have i1' : (k2 : Int) < (l.length : Int) := by omega
    obtain ⟨q0, q1, q2, q3, q4⟩ := HC.out w6 HE6.out k2 hk2'
    by_cases hk3 : (tq l k2).kind = 1
    case neg =>
      have HV : Hid (Q = .bad k2) := Lib.hid (by
        obtain ⟨_, g⟩ := nameF_bad (show (tk l k2).kind ≠ 1 from hk3)
        rw [HQ4.out, g])
      have t1 : (((tq l k2).kind : Int) == 1) = false := beq_eq_false_iff_ne.2 (by omega)
      have t2 : (((tq l k2).kind : Int) != 1) = true := bne_iff_ne.2 (by omega)
      clear hk3
      have z0 := cellRow HZ6.out 0 (.string ⟨#[]⟩) rfl
      have z1 := cellRow HZ6.out 1 (.slice none 0 0) rfl
      have z2 := cellRow HZ6.out 2 (.string ⟨#[]⟩) rfl
      have fz := fun j => frozenRow HZ6.out j
      go_wp2_with fail
      have hz := st3_heap HZ6.out (.string ⟨#[]⟩) (.slice none 0 0) (.string ⟨#[]⟩)
      have huz := st3_upd' w6 rb (.string ⟨#[]⟩) (.slice none 0 0) (.string ⟨#[]⟩)
      have e0 := cellRow hz 0 _ rfl
      have e1 := cellRow hz 1 _ rfl
      have e2 := cellRow hz 2 _ rfl
      refine bodyPost_ret (v := .tuple #[.agg #[.string ⟨#[]⟩, .slice none 0 0, .string ⟨#[]⟩], .int .i64 ((k2 : Int)), .bool false]) (by simp [results, Tryz.results106, go_sem, e0, e1, e2]) rfl ?_
      rw [HV.out]
      exact ⟨rfl, HE6.out.trans' huz (fun j hj e => by omega)⟩
    have hk3i : ((tq l k2).kind : Int) = 1 := by omega
    rw [hk3i] at q0
    have HQ5 : Hid (Q = .ok (nm, ys, (tq l k2).text) (k + 2)) := Lib.hid (by
      obtain ⟨_, g⟩ := nameF_ok (show (tk l k2).kind = 1 from hk3)
      rw [HQ4.out, g, show k + 2 = k2 + 1 by omega]
      rfl)
    obtain ⟨k3, hk3_⟩ : ∃ q, k + 2 = q := ⟨_, rfl⟩
    have hwk3 : IntKind.i64.wrap ((k : Int) + 2) = (k3 : Int) := by rw [IntWalk.i64_in _ (by omega)]; omega
    rw [hk3_] at HQ5
    obtain ⟨r, hr⟩ : ∃ r, (tq l k2).text = r := ⟨_, rfl⟩
    rw [hr] at q1 HQ5
    have HV := HQ5
    have t2 := cellRow HT6.out 2 (.string ⟨#[]⟩) rfl
    have ft := fun j => frozenRow HT6.out j
    have hbt := setBlock HT6.out 2 (.string r)
    have hut := (Upd.refl (fun k => k = tb) w6).setCell (p := ⟨tb, 2, none⟩) (.inl rfl) (.string r)
    have HT7 : Hid ((w6.setCell ⟨tb, 2, none⟩ (.string r)).heap[tb]? = some (.cells #[.string nm, .slice ya ys.length yc, .string r] 96 (0, 0))) := Lib.hid (by simpa using hbt)
    have HZ7 := Lib.hid (hut.heap HZ6.out (by omega))
    have HE7 := Lib.hid (HE6.out.trans' hut (fun j hj e => by omega))
    have HY7 := Lib.hid (SlR.kept HY6.out hut (fun k hk e => by have := hk.1; omega))
    have hs7 := hut.size
    clear hbt hut hr hk3 hk3i
    go_upto_region 15 with fail
    clear t2 ft q0 q1 q2 q3 q4
    generalize w6.setCell ⟨tb, 2, none⟩ (.string r) = w7 at *
    have t0 := cellRow HT7.out 0 (.string nm) rfl
    have t1 := cellRow HT7.out 1 (.slice ya ys.length yc) rfl
    have t2 := cellRow HT7.out 2 (.string r) rfl
    have z0 := cellRow HZ7.out 0 (.string ⟨#[]⟩) rfl
    have z1 := cellRow HZ7.out 1 (.slice none 0 0) rfl
    have z2 := cellRow HZ7.out 2 (.string ⟨#[]⟩) rfl
    have fz := fun j => frozenRow HZ7.out j
    go_wp2_with fail
    have hz := st3_heap HZ7.out (.string nm) (.slice ya ys.length yc) (.string r)
    have huz := st3_upd' w7 rb (.string nm) (.slice ya ys.length yc) (.string r)
    have e0 := cellRow hz 0 _ rfl
    have e1 := cellRow hz 1 _ rfl
    have e2 := cellRow hz 2 _ rfl
    refine bodyPost_ret (v := .tuple #[.agg #[.string nm, .slice ya ys.length yc, .string r], .int .i64 ((k3 : Int)), .bool true]) (by simp [results, Tryz.results106, go_sem, e0, e1, e2]) rfl ?_
    rw [HV.out]
    exact ⟨.slice ya ys.length yc, rfl, (SlR.kept HY7.out huz (fun k hk e => by have := hk.1; omega)).weaken (fun k hk => ⟨by have := hk.1; omega, by have := hk.2; have := huz.size; omega⟩), by show ys.length ≤ _; omega, HE7.out.trans' huz (fun j hj e => by omega)⟩

end Go.Proofs.YtjjaknmnhhfjeaaGreatDoor

/- What lies in memory while the reference reads a signature. -/
namespace Go.Proofs.YtjjaknmnhhfjeaaGreatDoor
open Go.RowKit Go.Hw Go Go.Sort Go.Proofs Go.ChangeMaps
set_option linter.unusedVariables false
set_option linter.unusedSimpArgs false

open Tm
def GrP (n0 : Nat) : PR Sg → Ending → World → World → Prop
  | .ok g j, e, w, w' => ∃ v0 v1, e = .returned (.tuple #[.agg #[v0, v1], .int .i64 (j : Int), .bool true]) ∧ SgR (fun k => w.heap.size ≤ k ∧ k < w'.heap.size) w' g (.agg #[v0, v1]) ∧ g.1.length ≤ n0 ∧ g.2.length ≤ n0 ∧ (∀ d ∈ g.2, d.2.1.length ≤ n0) ∧ Ext w w'
  | .bad j, e, w, w' => ∃ a0 n0 c0 a1 n1 c1, e = .returned (.tuple #[.agg #[.slice a0 n0 c0, .slice a1 n1 c1], .int .i64 (j : Int), .bool false]) ∧ Ext w w'
structure SK (tb : Nat) (w0 : World) (sv : Value) (xs : List By) (i : Nat) (W : World) : Prop where
  gbx : W.heap[tb]? = some (.cells #[sv, .slice none 0 0] 42 (0, 0))
  own : W.ownsRow w0.heap.size 9 1 sv xs.length (xs.map Value.string)
  up : Upd (fun k => k = tb) w0 W
  ln : xs.length ≤ i
structure DK (tb : Nat) (w0 : World) (T : Nat → Prop) (n0 : Nat) (ss : List By) (sa : Option Addr) (sc : Nat) (ov : Value) (B : Nat → Prop) (us : List Value) (os : List Dc) (i : Nat) (W : World) : Prop where
  gbx : W.heap[tb]? = some (.cells #[.slice sa ss.length sc, ov] 42 (0, 0))
  srt : StrR T W (.slice sa ss.length sc) ss
  own : W.ownsRow w0.heap.size 96 3 ov os.length (dCells os us)
  bs : ∀ k, B k → w0.heap.size ≤ k ∧ k < W.heap.size ∧ ¬ ov.ownBlock = some k
  ags : ∀ j, j < os.length → StrR B W (ug us j) (dg os j).2.1
  up : Upd (fun k => k = tb) w0 W
  ln : os.length ≤ i
  ul : us.length = os.length
  al : ∀ d ∈ os, d.2.1.length ≤ n0
section
variable {S T B U : Nat → Prop} {tb n0 : Nat} {w0 W W' W5 W6 : World} {ss xs : List By} {sa : Option Addr} {sc : Nat} {sv ov u v' : Value} {us : List Value} {os : List Dc} {i i' : Nat}
theorem SK.ext (h : SK tb w0 sv xs i W) (hu : Ext W W') : SK tb w0 sv xs i W' := ⟨hu.heap h.gbx (fun h => h), own_kept h.own hu (fun _ _ h => h), h.up.trans (hu.mono fun _ _ h => h.elim), h.ln⟩
theorem DK.ext (h : DK tb w0 T n0 ss sa sc ov B us os i W) (hu : Ext W W') : DK tb w0 T n0 ss sa sc ov B us os i W' :=
  ⟨hu.heap h.gbx (fun h => h), SlR.kept h.srt hu (fun _ _ h => h), own_kept h.own hu (fun _ _ h => h), fun k hk => ⟨(h.bs k hk).1, Nat.lt_of_lt_of_le (h.bs k hk).2.1 hu.size, (h.bs k hk).2.2⟩, fun j hj => SlR.kept (h.ags j hj) hu (fun _ _ h => h), h.up.trans (hu.mono fun _ _ h => h.elim), h.ln, h.ul, h.al⟩
theorem SK.push (h : SK tb w0 sv xs i W) (x : By) (h4 : tb < w0.heap.size) (hu : Ext W W5) (hG : Grew w0.heap.size 9 1 sv (xs.length + 1) (xs.map Value.string ++ [.string x]) W5 W6 v') (hi : xs.length + 1 ≤ i') : SK tb w0 v' (xs ++ [x]) i' (W6.setCell ⟨tb, 0, none⟩ v') := by
  have ho := fun j (hj : sv.ownBlock = some j) => h.own.lt j hj
  have hu8 := (Upd.refl (fun k => k = tb) W6).setCell (p := ⟨tb, 0, none⟩) (.inl rfl) v'
  have hb8 := setBlock (hG.upd.heap (hu.heap h.gbx (fun h => h)) (fun e => by have := (ho _ e).1; omega)) 0 v'
  refine ⟨by simpa using hb8, ?_, ?_, ?_⟩
  · have := own_kept hG.own hu8 (fun j hj e => by have := (hG.own.lt j hj).1; omega)
    rw [List.map_append, List.length_append]
    exact this
  · exact ((h.up.trans (hu.mono fun _ _ h => h.elim)).trans' hG.upd (fun j hj e => by have := (ho _ e).1; omega)).trans hu8
  · rw [List.length_append]; exact hi
theorem DK.push (h : DK tb w0 T n0 ss sa sc ov B us os i W) (d : Dc) (h4 : tb < w0.heap.size) (hT : ∀ k, T k → k < w0.heap.size ∧ k ≠ tb) (hu : Ext W W5) (hU : ∀ k, U k → W.heap.size ≤ k ∧ k < W5.heap.size) (ha : StrR U W5 u d.2.1) (hal : d.2.1.length ≤ n0)
    (hG : Grew w0.heap.size 96 3 ov (os.length + 1) (dCells os us ++ [.string d.1, u, .string d.2.2]) W5 W6 v') (hi : os.length + 1 ≤ i') : DK tb w0 T n0 ss sa sc v' (fun k => B k ∨ U k) (us ++ [u]) (os ++ [d]) i' (W6.setCell ⟨tb, 1, none⟩ v') := by
  have ho := fun j (hj : ov.ownBlock = some j) => h.own.lt j hj
  have hw := h.up.size
  have hz := hu.size
  have hz2 := hG.upd.size
  have hu8 := (Upd.refl (fun k => k = tb) W6).setCell (p := ⟨tb, 1, none⟩) (.inl rfl) v'
  have hz3 := hu8.size
  have hb8 := setBlock (hG.upd.heap (hu.heap h.gbx (fun h => h)) (fun e => by have := (ho _ e).1; omega)) 1 v'
  refine ⟨by simpa using hb8, ?_, ?_, ?_, ?_, ?_, ?_, ?_, ?_⟩
  · exact SlR.kept (SlR.kept (SlR.kept h.srt hu (fun _ _ h => h)) hG.upd (fun k hk e => by have := (ho _ e).1; have := (hT k hk).1; omega)) hu8 (fun k hk => (hT k hk).2)
  · have := own_kept hG.own hu8 (fun j hj e => by have := (hG.own.lt j hj).1; omega)
    rw [dCells_snoc _ _ _ _ h.ul, List.length_append]
    exact this
  · intro k hk
    have hv : k < W5.heap.size ∧ w0.heap.size ≤ k ∧ ¬ ov.ownBlock = some k := by
      rcases hk with hk | hk
      · have := h.bs k hk
        exact ⟨by omega, this.1, this.2.2⟩
      · have := hU k hk
        exact ⟨this.2, by omega, fun e => by have := (ho _ e).2; omega⟩
    refine ⟨hv.2.1, by omega, fun e => ?_⟩
    rcases hG.where_ with e2 | e2
    · exact hv.2.2 (e2 ▸ e)
    · rw [e2] at e; injection e with e; omega
  · intro j hj
    rw [List.length_append] at hj
    by_cases hjn : j < os.length
    · rw [ug_snoc h.ul j hjn, dg_snoc d j hjn]
      exact (SlR.kept (SlR.kept (SlR.kept (h.ags j hjn) hu (fun _ _ h => h)) hG.upd (fun k hk e => (h.bs k hk).2.2 e)) hu8 (fun k hk e => by have := (h.bs k hk).1; omega)).weaken (fun k hk => .inl hk)
    · have hj2 : j = os.length := by simp at hj; omega
      subst hj2
      have e1 : ug (us ++ [u]) os.length = u := by
        unfold ug
        rw [List.getD_eq_getElem?_getD, List.getElem?_append_right (by rw [h.ul]; exact Nat.le_refl _), h.ul, Nat.sub_self]
        rfl
      have e2 : dg (os ++ [d]) os.length = d := by
        unfold dg
        rw [List.getD_eq_getElem?_getD, List.getElem?_append_right (Nat.le_refl _), Nat.sub_self]
        rfl
      rw [e1, e2]
      exact (SlR.kept (SlR.kept ha hG.upd (fun k hk e => by have := (ho _ e).2; have := hU k hk; omega)) hu8 (fun k hk e => by have := hU k hk; omega)).weaken (fun k hk => .inr hk)
  · exact ((h.up.trans (hu.mono fun _ _ h => h.elim)).trans' hG.upd (fun j hj e => by have := (ho _ e).1; omega)).trans hu8
  · rw [List.length_append]; exact hi
  · rw [List.length_append, List.length_append, h.ul]; rfl
  · intro x hx
    rcases List.mem_append.1 hx with hx | hx
    · exact h.al x hx
    · rw [List.mem_singleton.1 hx]; exact hal
theorem DK.sg (h : DK tb w0 T n0 ss sa sc ov B us os i W) {m : Nat} (hT : ∀ k, T k → m ≤ k ∧ k < w0.heap.size) (hn : m ≤ w0.heap.size) : ∃ oa oc, ov = .slice oa os.length oc ∧ SgR (fun k => m ≤ k ∧ k < W.heap.size) W (ss, os) (.agg #[.slice sa ss.length sc, ov]) := by
  obtain ⟨oa, oc, ho⟩ := own_shape h.own
  have hz := h.up.size
  refine ⟨oa, oc, ho, sa, sc, oa, oc, by rw [ho], SlR.weaken h.srt (fun k hk => ⟨(hT k hk).1, by have := (hT k hk).2; omega⟩), us, ?_, fun j hj => SlR.weaken (h.ags j hj) (fun k hk => ⟨by have := (h.bs k hk).1; omega, (h.bs k hk).2.1⟩)⟩
  rw [← ho]
  exact (SlR.of_own h.own).weaken (fun k hk => ⟨by have := (h.own.lt k hk).1; omega, (h.own.lt k hk).2⟩)
end

end Go.Proofs.YtjjaknmnhhfjeaaGreatDoor

/- Sorted of the reference. -/
namespace Go.Proofs.YtjjaknmnhhfjeaaGreatDoor
open Go.RowKit Go.Hw Go Go.Sort Go.Proofs Go.ChangeMaps
set_option linter.unusedVariables false
set_option linter.unusedSimpArgs false

open Tm
theorem SgR.wk {S T : Nat → Prop} {w : World} {g : Sg} {v : Value} (h : SgR S w g v) (hs : ∀ k, S k → T k) : SgR T w g v := by
  obtain ⟨sa, sc, oa, oc, e, h1, h2⟩ := h
  exact ⟨sa, sc, oa, oc, e, SlR.weaken h1 hs, h2.weaken hs⟩
theorem pM_no {α : Type} {el : Nat → PR α} {kw : By} {l : List Tok} {m i : Nat} {xs : List α} (h : isB (tk l i) kw = false) : pM el kw l (m + 1) i xs = .ok xs i := by
  rw [pM, if_neg (by rw [h]; decide)]
set_option maxRecDepth 100000 in
set_option maxHeartbeats 8000000 in
theorem rsorted_x (la : Option Addr) (lc : Nat) (S : Nat → Prop) (l : List Tok) (hE : Ended l) (hok : ∀ i, TkOk (tk l i)) (hl : l.length ≤ 1000000) (w : World) (hR : TkR S w (.slice la l.length lc) l) (hS : ∀ k, S k → k < w.heap.size) :
    Calls Tryz.prog 66 #[.slice la l.length lc, .int .i64 0] w fun e w' => GrP l.length (pG l) e w w' := by
  have hi := hE.pos
  have HDE : Hid (∀ W, Ext w W → ∀ j, j < l.length → Calls Tryz.prog 106 #[.slice la l.length lc, .int .i64 (j : Int)] W fun e w' => DrP l.length (pD l j) e W w') := Lib.hid (fun W hW j hj => rdecl_x la lc S l hE hok hl j W (hR.ext hW) hj)
  obtain ⟨gg, off, hga, hSg, hat⟩ := (TkR.at_ hR (Nat.lt_of_le_of_lt (Nat.zero_le _) hi)).2
  have HC : Hid (∀ W, Ext w W → ∀ j, j < l.length → W.cell? ⟨gg, off + j * 5, none⟩ = some (.int .i64 ((tq l j).kind : Int)) ∧ W.cell? ⟨gg, off + j * 5 + 1, none⟩ = some (.string (tq l j).text) ∧ W.cell? ⟨gg, off + j * 5 + 2, none⟩ = some (.int .i64 (tq l j).n) ∧ W.cell? ⟨gg, off + j * 5 + 3, none⟩ = some (.int .i64 (tq l j).line) ∧ W.cell? ⟨gg, off + j * 5 + 4, none⟩ = some (.int .i64 (tq l j).col)) := Lib.hid (fun W hW j hj => by
    obtain ⟨q0, q1, q2, q3, q4⟩ := hat j hj
    exact ⟨hW.cell q0 (fun h => h), hW.cell q1 (fun h => h), hW.cell q2 (fun h => h), hW.cell q3 (fun h => h), hW.cell q4 (fun h => h)⟩)
  subst hga
  have hgg := hS gg hSg
  have HIS : Hid (∀ (j : Nat) (s : By) (W : World), kwB s = true → Calls Tryz.prog 105 #[.agg #[.int .i64 ((tq l j).kind : Int), .string (tq l j).text, .int .i64 (tq l j).n, .int .i64 (tq l j).line, .int .i64 (tq l j).col], .int .i64 3, .string s] W fun e W' => e = .returned (.bool (isB (tq l j) s)) ∧ Ext W W') := Lib.hid (fun j s W hs => by
    have h9 : isB (tq l j) s = (decide ((tq l j).kind = 3) && decide ((tq l j).text = s)) := is3 (hok j) hs
    rw [h9]
    exact rIs_x (tq l j) 3 s W)
  have HEN := Lib.hid hE
  obtain ⟨Q, hQ⟩ : ∃ Q, pG l = Q := ⟨_, rfl⟩
  rw [hQ]
  obtain ⟨Q1, hq1⟩ : ∃ q, pM (pN l) wSort l l.length 0 [] = q := ⟨_, rfl⟩
  have HQ1 := Lib.hid hq1
  have HPG : Hid (pG2 l Q1 = Q) := Lib.hid (by rw [← hQ, ← hq1, pG_eq])
  have hs2 : ((w.alloc (.cells #[.slice none 0 0, .slice none 0 0] 42)).alloc (.cells #[.slice none 0 0, .slice none 0 0] 42)).heap.size = w.heap.size + 2 := by simp
  have HE2 := Lib.hid (((Upd.refl (fun _ => False) w).alloc (.cells #[.slice none 0 0, .slice none 0 0] 42)).alloc (.cells #[.slice none 0 0, .slice none 0 0] 42))
  have HZ2 := Lib.hid (allocOld (alloc0 w (.cells #[.slice none 0 0, .slice none 0 0] 42)) (.cells #[.slice none 0 0, .slice none 0 0] 42))
  have HT2 := Lib.hid (alloc_at (w.alloc (.cells #[.slice none 0 0, .slice none 0 0] 42)) (.cells #[.slice none 0 0, .slice none 0 0] 42) (n := w.heap.size + 1) (by simp))
  obtain ⟨rb, hrb⟩ : ∃ rb, w.heap.size = rb := ⟨_, rfl⟩
  have hzz : (w.alloc (.cells #[.slice none 0 0, .slice none 0 0] 42)).heap.size = rb + 1 := by simp [hrb]
  rw [hrb] at HZ2 HT2
  have HK := Lib.hid kw_no
  obtain ⟨iS, hi9, hz0, hz1, hz2⟩ := info_parts infoS
  obtain ⟨iD, hd9, hy0, hy1, hy2⟩ := info_parts infoD
  have hk1' : (⟨#[115, 111, 114, 116]⟩ : By) = wSort := rfl
  have hk2' : (⟨#[111, 112]⟩ : By) = wOp := rfl
  clear hR hat hQ hq1 hS hSg
  go_enter Tryz.func66, Tryz.ntmps66
  go_wp2_with fail
  try rw [hzz]
  try rw [hrb]
  generalize ((w.alloc (.cells #[.slice none 0 0, .slice none 0 0] 42)).alloc (.cells #[.slice none 0 0, .slice none 0 0] 42)) = w0 at *
  have HSK : Hid (SK (rb + 1) w0 (.slice none 0 0) [] 0 w0) := Lib.hid ⟨HT2.out, ⟨rfl, .inl ⟨rfl, rfl⟩⟩, Upd.refl _ _, Nat.le_refl _⟩
  clear HT2 hzz
  go_loopg [1] (l.length - 0) (fun gk at_ wr => ∃ (sv : Value) (xs : List By) (i m : Nat), at_ = .int .i64 (i : Int) ∧ gk = l.length - i ∧ i < l.length ∧ l.length - i ≤ m ∧ Hid (SK (rb + 1) w0 sv xs i wr) ∧ Hid (pM (pN l) wSort l m i xs = Q1))
  case atStart => exact ⟨_, [], 0, l.length, rfl, rfl, hi, Nat.le_refl _, HSK, HQ1⟩
  case round =>
    clear HSK HQ1 hi
    obtain ⟨sv, xs, i, m, rfl, rfl, hi, hm, HJ, HQ⟩ := hrel
    obtain ⟨m, rfl⟩ : ∃ m', m = m' + 1 := ⟨m - 1, by omega⟩
    have HEr : Hid (Ext w wr) := Lib.hid (HE2.out.trans' HJ.out.up (fun k hk e => by omega))
    have i0 : (0 : Int) ≤ (i : Int) := by omega
    have i1' : (i : Int) < (l.length : Int) := by omega
    obtain ⟨q0, q1, q2, q3, q4⟩ := HC.out wr HEr.out i hi
    go_wp2_with fail
    try rw [hk1']
    refine (HIS.out i wSort wr HK.out.2.2.2.2.2.1).mono ?_
    rintro e wr2 ⟨rfl, h⟩
    have HJ2 := Lib.hid (HJ.out.ext h)
    have HER := Lib.hid (HEr.out.trans h)
    clear h q0 q1 q2 q3 q4 HJ HEr
    obtain ⟨c, hc⟩ : ∃ c, isB (tq l i) wSort = c := ⟨_, rfl⟩
    rw [hc]
    have HCC : Hid (isB (tk l i) wSort = c) := Lib.hid hc
    clear hc
    cases c
    case true =>
      have hi1 := HEN.out.isB hi HCC.out
      obtain ⟨i2, hi2⟩ : ∃ q, i + 1 = q := ⟨_, rfl⟩
      have hwi2 : IntKind.i64.wrap ((i : Int) + 1) = (i2 : Int) := by rw [IntWalk.i64_in _ (by omega)]; omega
      rw [hi2] at hi1
      have HQ2 : Hid ((match pN l i2 with | .bad j => .bad j | .ok x j => pM (pN l) wSort l m j (xs ++ [x])) = Q1) := Lib.hid (by
        have := HQ.out
        rw [pM, if_pos HCC.out] at this
        rw [← this, ← hi2]
        cases pN l (i + 1) <;> rfl)
      clear HQ HCC i0 i1'
      have i0 : (0 : Int) ≤ (i2 : Int) := by omega
      have i1' : (i2 : Int) < (l.length : Int) := by omega
      obtain ⟨q0, q1, q2, q3, q4⟩ := HC.out wr2 HER.out i2 hi1
      by_cases hk1 : (tq l i2).kind = 1
      case neg =>
        have HV : Hid (Q = .bad i2) := Lib.hid (by
          obtain ⟨_, g⟩ := nameF_bad (show (tk l i2).kind ≠ 1 from hk1)
          have h2 := HQ2.out
          rw [g] at h2
          rw [← HPG.out, ← h2]
          rfl)
        have t1 : (((tq l i2).kind : Int) == 1) = false := beq_eq_false_iff_ne.2 (by omega)
        have t2 : (((tq l i2).kind : Int) != 1) = true := bne_iff_ne.2 (by omega)
        have b0 := cellRow HJ2.out.gbx 0 sv rfl
        have b1 := cellRow HJ2.out.gbx 1 (.slice none 0 0) rfl
        obtain ⟨sa, sc, hsv⟩ := own_shape HJ2.out.own
        subst hsv
        have HZ3 := Lib.hid (HJ2.out.up.heap HZ2.out (fun e => by omega))
        clear hk1
        have z0 := cellRow HZ3.out 0 (.slice none 0 0) rfl
        have z1 := cellRow HZ3.out 1 (.slice none 0 0) rfl
        have fz := fun j => frozenRow HZ3.out j
        go_wp2_with fail
        have hz := st2_heap HZ3.out (.slice sa xs.length sc) (.slice none 0 0)
        have huz := st2_upd wr2 rb (.slice sa xs.length sc) (.slice none 0 0)
        have e0 := cellRow hz 0 _ rfl
        have e1 := cellRow hz 1 _ rfl
        refine bodyPost_ret (v := .tuple #[.agg #[.slice sa xs.length sc, .slice none 0 0], .int .i64 ((i2 : Int)), .bool false]) (by simp [results, Tryz.results66, go_sem, e0, e1]) rfl ?_
        rw [HV.out]
        exact ⟨_, _, _, _, _, _, rfl, HER.out.trans' huz (fun j hj e => by omega)⟩
      have hk1i : ((tq l i2).kind : Int) = 1 := by omega
      rw [hk1i] at q0
      obtain ⟨tx, htx⟩ : ∃ x, (tq l i2).text = x := ⟨_, rfl⟩
      have HQ3 : Hid (pM (pN l) wSort l m (i2 + 1) (xs ++ [tx]) = Q1) := Lib.hid (by
        obtain ⟨_, g⟩ := nameF_ok (show (tk l i2).kind = 1 from hk1)
        have h2 := HQ2.out
        rw [g] at h2
        rw [← h2, ← htx]
        rfl)
      rw [htx] at q1
      have hi3' := HEN.out.next hi1 (by show ¬ (tq l i2).kind = 5; omega)
      obtain ⟨a0, c0, hlv⟩ := own_shape HJ2.out.own
      subst hlv
      have HOW := Lib.hid HJ2.out.own
      have hwr := HJ2.out.up.size
      have hno : ¬ (Value.slice a0 xs.length c0).ownBlock = some (rb + 1) := fun e => by have := (HOW.out.lt _ e).1; omega
      have hng : ¬ (Value.slice a0 xs.length c0).ownBlock = some gg := fun e => by have := (HOW.out.lt _ e).1; omega
      have X0 : ∀ x : XF (fun k => (Value.slice a0 xs.length c0).ownBlock = some k) wr2, x.val.cell? ⟨rb + 1, 0, none⟩ = some (.slice a0 xs.length c0) := fun x => x.upd.cell (cellRow HJ2.out.gbx 0 _ rfl) hno
      have X1 : ∀ x : XF (fun k => (Value.slice a0 xs.length c0).ownBlock = some k) wr2, x.val.cell? ⟨gg, off + i2 * 5 + 1, none⟩ = some (.string tx) := fun x => x.upd.cell q1 hng
      have hln := HJ2.out.ln
      clear hk1 hk1i htx HQ2
      go_upto_region 5 with fail
      clear q0 q1 q2 q3 q4
      refine wp_region_mix [(0, 0), (1, 0), (2, 0), (3, 0), (4, 0), (5, 0), (6, 0), (7, 0), (8, 1), (9, 1), (10, 0), (11, 2)] 11 (fun W => ∃ x : XF (fun k => (Value.slice a0 xs.length c0).ownBlock = some k) wr2, W = x.val) (by kernel_rfl) (by kernel_rfl) (fun _ _ d _ _ h => by cases d <;> exact h) ⟨⟨_, (Upd.refl _ wr2).drew⟩, rfl⟩ ?_
      simp only [pickO, List.getElem?_cons_zero, List.getElem?_cons_succ]
      have HD : Hid (Ext wr2 wr2.drew) := Lib.hid (Upd.refl (fun _ => False) wr2).drew
      have HSD : Hid (∃ x : XF (fun k => (Value.slice a0 xs.length c0).ownBlock = some k) wr2, wr2.drew = x.val) := Lib.hid ⟨⟨_, (Upd.refl _ wr2).drew⟩, rfl⟩
      iterate 8 (refine mix_take ?_; intro K hK; go_simp; refine hK _ ?_; clear hK K)
      refine mix_one ?_ HSD.out
      intro K hK _
      go_simp
      have HA8 : Hid (Ext wr2 (wr2.alloc (.cells #[.string tx] 9)).drew) := Lib.hid ((Upd.refl (fun _ => False) wr2).alloc (.cells #[.string tx] 9)).drew
      have HN8 : Hid ((wr2.alloc (.cells #[.string tx] 9)).drew.heap[wr2.heap.size]? = some (.cells #[.string tx] 9)) := Lib.hid (alloc0 wr2 (.cells #[.string tx] 9))
      have HO8 := Lib.hid (own_kept HOW.out HA8.out (fun _ _ h => h))
      have HS8 : Hid (∃ x : XF (fun k => (Value.slice a0 xs.length c0).ownBlock = some k) wr2, (wr2.alloc (.cells #[.string tx] 9)).drew = x.val) := Lib.hid ⟨⟨_, HA8.out.mono (fun _ _ h => h.elim)⟩, rfl⟩
      refine hK _ _ HS8.out ?_
      clear hK K
      obtain ⟨nb, hnb⟩ : ∃ q, wr2.heap.size = q := ⟨_, rfl⟩
      rw [hnb] at HN8
      try rw [hnb]
      try rw [show wr2.drew.heap.size = nb from hnb]
      have hsz8 : w0.heap.size ≤ (wr2.alloc (.cells #[.string tx] 9)).drew.heap.size := Nat.le_trans hwr HA8.out.size
      clear hnb HSD
      generalize (wr2.alloc (.cells #[.string tx] 9)).drew = w8 at *
      refine mix_one ?_ HS8.out
      intro K hK _
      rw [if_pos (by rfl)]
      refine step_append_at _ (.tmp 28) (.tmp 35) 39 rfl w0.heap.size 9 iS (.string ⟨#[]⟩) 1 16 Tryz.underlying39 hi9 hz0 hz1 hz2 rfl (by decide) _ _ _ rfl HO8.out ⟨nb, 0, none⟩ 1 1 [.string tx] rfl rfl (fun j u hj => by
        match j, hj with
        | 0, hj => simp at hj; subst hj; simp only [Addr.add]; exact cellRow HN8.out 0 _ rfl) (fun u hu => by simp at hu; subst hu; rfl) (by unfold maxLen; omega) (by omega) hsz8 ?_
      intro v' w9 hG
      refine hK _ _ ⟨⟨w9, (HA8.out.mono (fun _ _ h => h.elim)).trans (hG.upd)⟩, rfl⟩ ?_
      clear hK K
      have HJ9 := Lib.hid (HJ2.out.push tx (i' := i2 + 1) (by omega) HA8.out hG (by omega))
      obtain ⟨xa, xc, hxs⟩ := own_shape hG.own
      have hB9 := hG.upd.heap (HA8.out.heap HJ2.out.gbx (fun h => h)) hno
      have c1 := cellRow hB9 0 (.slice a0 xs.length c0) rfl
      have fb := fun j => frozenRow hB9 j
      clear hG hB9 X0 X1
      subst hxs
      refine mix_take ?_
      intro K hK
      go_simp
      refine hK _ ?_
      clear hK K
      refine mix_two ?_
      intro K hK
      go_simp
      refine hK _ _ ?_
      clear hK K
      simp only [wpMix]
      have hwi3 : IntKind.i64.wrap ((i : Int) + 2) = ((i2 + 1 : Nat) : Int) := by rw [IntWalk.i64_in _ (by omega)]; omega
      go_wp2_with fail
      generalize w9.setCell ⟨rb + 1, 0, none⟩ (.slice xa (xs.length + 1) xc) = wz at *
      go_roundg (l.length - (i2 + 1))
      case measure => omega
      case rel => exact ⟨_, _, i2 + 1, m, by go_num, rfl, hi3', by omega, HJ9, HQ3⟩
    have HPG2 : Hid (pG3 xs (pM (pD l) wOp l l.length i []) = Q) := Lib.hid (by
      have h1 := HQ.out
      rw [pM_no HCC.out] at h1
      rw [← HPG.out, ← h1]
      rfl)
    clear HQ HCC HPG i0 i1'
    obtain ⟨sa, sc, hsv⟩ := own_shape HJ2.out.own
    subst hsv
    have hs5 := HJ2.out.up.size
    have HTS : Hid (∀ k, (Value.slice sa xs.length sc).ownBlock = some k → k < wr2.heap.size ∧ k ≠ rb + 1) := Lib.hid (fun k hk => by have := HJ2.out.own.lt k hk; exact ⟨this.2, by omega⟩)
    have HTN : Hid (∀ k, (Value.slice sa xs.length sc).ownBlock = some k → w0.heap.size ≤ k) := Lib.hid (fun k hk => (HJ2.out.own.lt k hk).1)
    have hlx : xs.length ≤ l.length := Nat.le_trans HJ2.out.ln (by omega)
    have HZ5 := Lib.hid (HJ2.out.up.heap HZ2.out (fun e => by omega))
    have HDJ : Hid (DK (rb + 1) wr2 (fun k => (Value.slice sa xs.length sc).ownBlock = some k) l.length xs sa sc (.slice none 0 0) (fun _ => False) [] [] i wr2) := Lib.hid ⟨HJ2.out.gbx, SlR.of_own HJ2.out.own, ⟨rfl, .inl ⟨rfl, rfl⟩⟩, fun k h => h.elim, fun j hj => absurd hj (Nat.not_lt_zero _), Upd.refl _ _, Nat.zero_le _, rfl, fun d h => by cases h⟩
    clear HJ2 HZ2 HE2
    go_wp2_with fail
    go_loopg [1] (l.length - i) (fun gk at_ wr => ∃ (ov : Value) (B : Nat → Prop) (us : List Value) (os : List Dc) (i m : Nat), at_ = .int .i64 (i : Int) ∧ gk = l.length - i ∧ i < l.length ∧ l.length - i ≤ m ∧ Hid (DK (rb + 1) wr2 (fun k => (Value.slice sa xs.length sc).ownBlock = some k) l.length xs sa sc ov B us os i wr) ∧ Hid (pG3 xs (pM (pD l) wOp l m i os) = Q))
    case atStart => exact ⟨_, _, [], [], i, l.length, rfl, rfl, hi, by omega, HDJ, HPG2⟩
    case round =>
      clear HDJ HPG2 hi hm
      obtain ⟨ov, B, us, os, i, m, rfl, rfl, hi, hm, HJ, HQ⟩ := hrel
      obtain ⟨m, rfl⟩ : ∃ m', m = m' + 1 := ⟨m - 1, by omega⟩
      have HEr : Hid (Ext w wr) := Lib.hid (HER.out.trans' HJ.out.up (fun k hk e => by omega))
      have i0 : (0 : Int) ≤ (i : Int) := by omega
      have i1' : (i : Int) < (l.length : Int) := by omega
      obtain ⟨q0, q1, q2, q3, q4⟩ := HC.out wr HEr.out i hi
      go_wp2_with fail
      try rw [hk2']
      refine (HIS.out i wOp wr HK.out.2.2.2.2.2.2).mono ?_
      rintro e vr2 ⟨rfl, h⟩
      have HJ3 := Lib.hid (HJ.out.ext h)
      have HER2 := Lib.hid (HEr.out.trans h)
      clear h q0 q1 q2 q3 q4 HJ HEr
      have HZ6 := Lib.hid (HJ3.out.up.heap HZ5.out (fun e => by omega))
      have hs6 := HJ3.out.up.size
      obtain ⟨oa, oc, hov⟩ := own_shape HJ3.out.own
      subst hov
      obtain ⟨c, hc⟩ : ∃ c, isB (tq l i) wOp = c := ⟨_, rfl⟩
      rw [hc]
      have HCC : Hid (isB (tk l i) wOp = c) := Lib.hid hc
      clear hc
      cases c
      case false =>
        have HV : Hid (Q = .ok (xs, os) i) := Lib.hid (by
          rw [← HQ.out, pM_no HCC.out]
          rfl)
        have b0 := cellRow HJ3.out.gbx 0 (.slice sa xs.length sc) rfl
        have b1 := cellRow HJ3.out.gbx 1 (.slice oa os.length oc) rfl
        obtain ⟨oa', oc', hov, hsg⟩ := HJ3.out.sg (m := rb + 2) (fun k hk => ⟨by have := HTN.out k hk; omega, (HTS.out k hk).1⟩) (by omega)
        have HSG := Lib.hid hsg
        have hlo := HJ3.out.ln
        clear hsg hov
        have z0 := cellRow HZ6.out 0 (.slice none 0 0) rfl
        have z1 := cellRow HZ6.out 1 (.slice none 0 0) rfl
        have fz := fun j => frozenRow HZ6.out j
        go_wp2_with fail
        have hz := st2_heap HZ6.out (.slice sa xs.length sc) (.slice oa os.length oc)
        have huz := st2_upd vr2 rb (.slice sa xs.length sc) (.slice oa os.length oc)
        have e0 := cellRow hz 0 _ rfl
        have e1 := cellRow hz 1 _ rfl
        refine bodyPost_ret (v := .tuple #[.agg #[.slice sa xs.length sc, .slice oa os.length oc], .int .i64 ((i : Int)), .bool true]) (by simp [results, Tryz.results66, go_sem, e0, e1]) rfl ?_
        rw [HV.out]
        exact ⟨_, _, rfl, SgR.wk (SgR.kept2 HSG.out huz (fun k hk e => by have := hk.1; omega)) (fun k hk => ⟨by have := hk.1; omega, by have := hk.2; have := huz.size; omega⟩), hlx, by show os.length ≤ _; omega, HJ3.out.al, HER2.out.trans' huz (fun j hj e => by omega)⟩
      have hi1 := HEN.out.isB hi HCC.out
      obtain ⟨i2, hi2⟩ : ∃ q, i + 1 = q := ⟨_, rfl⟩
      have hwi2 : IntKind.i64.wrap ((i : Int) + 1) = (i2 : Int) := by rw [IntWalk.i64_in _ (by omega)]; omega
      rw [hi2] at hi1
      have HQ2 : Hid (pG3 xs (match pD l i2 with | .bad j => .bad j | .ok x j => pM (pD l) wOp l m j (os ++ [x])) = Q) := Lib.hid (by
        have := HQ.out
        rw [pM, if_pos HCC.out] at this
        rw [← this, ← hi2]
        cases pD l (i + 1) <;> rfl)
      have HDR := Lib.hid (HDE.out vr2 HER2.out i2 hi1)
      have hfw := pD_fwd HEN.out i2 hi1
      obtain ⟨R, hR⟩ : ∃ R, pD l i2 = R := ⟨_, rfl⟩
      rw [hR] at HQ2 HDR hfw
      clear hR HQ HCC
      go_wp2_with fail
      refine HDR.out.mono ?_
      cases R with
      | bad k =>
        rintro e w4 ⟨rfl, h⟩
        have HV : Hid (Q = .bad k) := Lib.hid HQ2.out.symm
        have HJ4 := Lib.hid (HJ3.out.ext (h.alloc (.cells #[.string ⟨#[]⟩, .slice none 0 0, .string ⟨#[]⟩] 96)))
        have HE5 := Lib.hid (HER2.out.trans (h.alloc (.cells #[.string ⟨#[]⟩, .slice none 0 0, .string ⟨#[]⟩] 96)))
        have HZ7 := Lib.hid ((h.alloc (.cells #[.string ⟨#[]⟩, .slice none 0 0, .string ⟨#[]⟩] 96)).heap HZ6.out (fun h => h))
        clear h HDR HQ2
        go_upto_region 9 with fail
        generalize w4.alloc (.cells #[.string ⟨#[]⟩, .slice none 0 0, .string ⟨#[]⟩] 96) = w5 at *
        have b0 := cellRow HJ4.out.gbx 0 (.slice sa xs.length sc) rfl
        have b1 := cellRow HJ4.out.gbx 1 (.slice oa os.length oc) rfl
        have z0 := cellRow HZ7.out 0 (.slice none 0 0) rfl
        have z1 := cellRow HZ7.out 1 (.slice none 0 0) rfl
        have fz := fun j => frozenRow HZ7.out j
        go_wp2_with fail
        have hz := st2_heap HZ7.out (.slice sa xs.length sc) (.slice oa os.length oc)
        have huz := st2_upd w5 rb (.slice sa xs.length sc) (.slice oa os.length oc)
        have e0 := cellRow hz 0 _ rfl
        have e1 := cellRow hz 1 _ rfl
        refine bodyPost_ret (v := .tuple #[.agg #[.slice sa xs.length sc, .slice oa os.length oc], .int .i64 ((k : Int)), .bool false]) (by simp [results, Tryz.results66, go_sem, e0, e1]) rfl ?_
        rw [HV.out]
        exact ⟨_, _, _, _, _, _, rfl, HE5.out.trans' huz (fun j hj e => by omega)⟩
      | ok d k =>
        rintro e w4 ⟨u, rfl, hu, hul, h⟩
        obtain ⟨ya, yc, hy⟩ := SlR.shape hu
        subst hy
        have hkl : k < l.length := hfw.2.1
        have hik : i2 < k := hfw.2.2 d k rfl
        have HQ3 : Hid (pG3 xs (pM (pD l) wOp l m k (os ++ [d])) = Q) := Lib.hid HQ2.out
        have HU4 := Lib.hid hu
        have H4 := Lib.hid h
        have hs4 := h.size
        clear h hu HDR HQ2 hfw
        have HD5 := Lib.hid (alloc0 w4 (.cells #[.string d.1, .slice ya d.2.1.length yc, .string d.2.2] 96))
        have HA5 := Lib.hid (H4.out.alloc (.cells #[.string d.1, .slice ya d.2.1.length yc, .string d.2.2] 96))
        have H45 := Lib.hid ((Upd.refl (fun _ => False) w4).alloc (.cells #[.string d.1, .slice ya d.2.1.length yc, .string d.2.2] 96))
        have hs5' : w4.heap.size + 1 ≤ (w4.alloc (.cells #[.string d.1, .slice ya d.2.1.length yc, .string d.2.2] 96)).heap.size := Nat.le_of_eq (alloc_size w4 (.cells #[.string d.1, .slice ya d.2.1.length yc, .string d.2.2] 96)).symm
        go_upto_region 11 with fail
        obtain ⟨db, hdb⟩ : ∃ x, w4.heap.size = x := ⟨_, rfl⟩
        rw [hdb] at HD5
        try rw [hdb]
        generalize w4.alloc (.cells #[.string d.1, .slice ya d.2.1.length yc, .string d.2.2] 96) = w5 at *
        have HJ5 := Lib.hid (HJ3.out.ext HA5.out)
        have HO5 := Lib.hid (HJ5.out.own.alloc (.cells #[.string d.1, .slice ya d.2.1.length yc, .string d.2.2] 96))
        have HB5 := Lib.hid (allocOld HJ5.out.gbx (.cells #[.string d.1, .slice ya d.2.1.length yc, .string d.2.2] 96))
        have HA6 := Lib.hid (HA5.out.alloc (.cells #[.string d.1, .slice ya d.2.1.length yc, .string d.2.2] 96))
        have hs6' : w5.heap.size + 1 ≤ (w5.alloc (.cells #[.string d.1, .slice ya d.2.1.length yc, .string d.2.2] 96)).heap.size := Nat.le_of_eq (alloc_size w5 (.cells #[.string d.1, .slice ya d.2.1.length yc, .string d.2.2] 96)).symm
        have b1 := cellRow HJ5.out.gbx 1 (.slice oa os.length oc) rfl
        have d0 := cellRow HD5.out 0 (.string d.1) rfl
        have d1 := cellRow HD5.out 1 (.slice ya d.2.1.length yc) rfl
        have d2 := cellRow HD5.out 2 (.string d.2.2) rfl
        have hlo := HJ3.out.ln
        go_wp2_with (at_builtin; refine wpList_append_at _ rfl (.tmp 58) (.tmp 60) 40 rfl wr2.heap.size 96 iD (.agg #[.string ⟨#[]⟩, .slice none 0 0, .string ⟨#[]⟩]) 3 56 Tryz.underlying40 hd9 hy0 hy1 hy2 rfl (by decide) _ _ _ rfl HO5.out ⟨w5.heap.size, 0, none⟩ 1 1 [.string d.1, .slice ya d.2.1.length yc, .string d.2.2] rfl rfl ?c1 ?c2 ?c3 ?c4 ?c5 ?_)
        try (case c1 =>
          intro j u hj
          match j, hj with
          | 0, hj => simp at hj; subst hj; simp only [Addr.add]; exact cellRow (alloc0 _ _) 0 _ rfl
          | 1, hj => simp at hj; subst hj; simp only [Addr.add]; exact cellRow (alloc0 _ _) 1 _ rfl
          | 2, hj => simp at hj; subst hj; simp only [Addr.add]; exact cellRow (alloc0 _ _) 2 _ rfl)
        try (case c2 => first | (intro u hu; simp at hu; rcases hu with rfl | rfl | rfl <;> rfl) | exact ⟨rfl, rfl, rfl⟩)
        case c3 => unfold maxLen; omega
        case c4 => omega
        case c5 => omega
        intro v' w7 hG
        have HJ7 := Lib.hid (HJ3.out.push d (i' := k) (U := fun k => vr2.heap.size ≤ k ∧ k < w4.heap.size) (u := .slice ya d.2.1.length yc) (by omega) HTS.out HA6.out (fun k hk => ⟨hk.1, by have := hk.2; omega⟩) (SlR.kept HU4.out (H45.out.alloc (.cells #[.string d.1, .slice ya d.2.1.length yc, .string d.2.2] 96)) (fun _ _ h => h)) hul hG (by omega))
        obtain ⟨xa, xc, hxs⟩ := own_shape hG.own
        have hB7 := hG.upd.heap HB5.out (fun e => by have := (HO5.out.lt _ e).1; omega)
        have g2 := cellRow hB7 1 (.slice oa os.length oc) rfl
        have fb := fun j => frozenRow hB7 j
        clear hG hB7 b1 d0 d1 d2
        subst hxs
        go_wp2_with fail
        generalize w7.setCell ⟨rb + 1, 1, none⟩ (.slice xa (os.length + 1) xc) = wz at *
        go_roundg (l.length - k)
        case measure => omega
        case rel => exact ⟨_, _, _, _, k, m, rfl, rfl, hkl, by omega, HJ7, HQ3⟩

end Go.Proofs.YtjjaknmnhhfjeaaGreatDoor
