/- The texts I15 I16 I17, one behind the other. -/
import Derived.Test.YtiimccogojkldaaGreatDoorYAG
import Derived.Test.YtiimccogojkldaaGreatDoorYAA
/- cell of the reference. -/
namespace Go.Proofs.YtiimccogojkldaaGreatDoor
open Go.RowKit Go.Hw Go
set_option linter.unusedVariables false
set_option linter.unusedSimpArgs false

open Tm
theorem tl_cells {S : Nat → Prop} {w : World} {N : List Nt} {a : Option Addr} {n cap : Nat} (h : TlR S w (N.map (·.1)) (.slice a n cap)) (hl : 0 < N.length) :
    ∃ g off, a = some ⟨g, off, none⟩ ∧ ∀ W, Ext w W → ∀ i, i < N.length → ∃ a' cap', W.cell? ⟨g, off + i * 3, none⟩ = some (.string (ng N i).1.name) ∧ W.cell? ⟨g, off + i * 3 + 1, none⟩ = some (.string (ng N i).1.sort) ∧
      W.cell? ⟨g, off + i * 3 + 2, none⟩ = some (.slice a' (ng N i).1.kids.length cap') ∧ TlR S W (ng N i).1.kids (.slice a' (ng N i).1.kids.length cap') := by
  obtain ⟨g, off, e, _, hat⟩ := h.at_ (by rw [List.length_map]; exact hl)
  refine ⟨g, off, e, fun W hW i hi => ?_⟩
  obtain ⟨a', cap', h0, h1, h2, h3⟩ := hat i (by rw [List.length_map]; exact hi)
  rw [ng_map1 N i hi] at h0 h1 h2 h3
  exact ⟨a', cap', hW.cell h0 (fun h => h), by rw [Nat.add_assoc]; exact hW.cell h1 (fun h => h), by rw [Nat.add_assoc]; exact hW.cell h2 (fun h => h), h3.ext hW⟩
theorem kl_cells {S : Nat → Prop} {w : World} {N : List Nt} {a : Option Addr} {n cap : Nat} (h : LlR natV S w (.slice a n cap) (N.map (·.2))) (i : Nat) (hi : i < N.length) :
    ∃ g off a' cap', a = some ⟨g, off, none⟩ ∧ ∃ g' off', ∀ W, Ext w W → W.cell? ⟨g, off + i, none⟩ = some (.slice a' (ng N i).2.length cap') ∧ ∀ k, k < (ng N i).2.length → a' = some ⟨g', off', none⟩ ∧ W.cell? ⟨g', off' + k, none⟩ = some (natV ((ng N i).2.getD k 0)) := by
  obtain ⟨g, off, e, _, hat⟩ := h.at_ (by rw [List.length_map]; omega)
  obtain ⟨a', cap', h0, h1⟩ := hat i (by rw [List.length_map]; exact hi)
  rw [ng_map2 N i hi] at h0 h1
  by_cases h0l : 0 < (ng N i).2.length
  · obtain ⟨g', off', e', _, hj⟩ := h1.one_at (d := 0) h0l
    exact ⟨g, off, a', cap', e, g', off', fun W hW => ⟨hW.cell h0 (fun h => h), fun k hk => ⟨e', hW.cell (hj k hk) (fun h => h)⟩⟩⟩
  · exact ⟨g, off, a', cap', e, 0, 0, fun W hW => ⟨hW.cell h0 (fun h => h), fun k hk => absurd (Nat.lt_of_le_of_lt (Nat.zero_le k) hk) h0l⟩⟩
theorem tb_cells {S : Nat → Prop} {w : World} {tab : List (List Bool)} {a : Option Addr} {n cap m : Nat} (h : LlR Value.bool S w (.slice a n cap) tab) (hl : 0 < tab.length) (hrow : ∀ p, p < tab.length → (tab.getD p []).length = m) (hm : 0 < m) :
    ∃ g off, a = some ⟨g, off, none⟩ ∧ ∃ (RG RO RC : Nat → Nat), ∀ W, Ext w W → ∀ p, p < tab.length → ∀ q, q < m → W.cell? ⟨g, off + p, none⟩ = some (.slice (some ⟨RG p, RO p, none⟩) m (RC p)) ∧ W.cell? ⟨RG p, RO p + q, none⟩ = some (.bool (bt tab p q)) := by
  obtain ⟨g, off, e, _, hat⟩ := h.at_ hl
  have hA : ∀ p, ∃ x : Nat × Nat × Nat, p < tab.length → ∀ W, Ext w W → ∀ q, q < m → W.cell? ⟨g, off + p, none⟩ = some (.slice (some ⟨x.1, x.2.1, none⟩) m x.2.2) ∧ W.cell? ⟨x.1, x.2.1 + q, none⟩ = some (.bool (bt tab p q)) := fun p => by
    by_cases hp : p < tab.length
    · obtain ⟨a', cap', h0, h1⟩ := hat p hp
      obtain ⟨g', off', e', _, hj⟩ := h1.one_at (d := false) (by rw [hrow p hp]; exact hm)
      rw [hrow p hp] at h0 hj
      subst e'
      exact ⟨(g', off', cap'), fun _ W hW q hq => ⟨hW.cell h0 (fun h => h), hW.cell (hj q hq) (fun h => h)⟩⟩
    · exact ⟨(0, 0, 0), fun h => absurd h hp⟩
  obtain ⟨f, hf⟩ := Classical.axiomOfChoice hA
  exact ⟨g, off, e, fun p => (f p).1, fun p => (f p).2.1, fun p => (f p).2.2, fun W hW p hp q hq => hf p hp W hW q hq⟩
set_option maxRecDepth 100000 in
set_option maxHeartbeats 2000000 in
theorem cell_x (ops : List By) (X Y : List Nt) (tab : List (List Bool)) (i j : Nat) (S : Nat → Prop) (w : World) (ov xl xk yl yk tv : Value)
    (hO : StR S w ov ops) (hXl : TlR S w (X.map (·.1)) xl) (hXk : LlR natV S w xk (X.map (·.2))) (hYl : TlR S w (Y.map (·.1)) yl) (hYk : LlR natV S w yk (Y.map (·.2))) (hTb : LlR Value.bool S w tv tab)
    (hX : Num X) (hY : Num Y) (hi : i < X.length) (hj : j < Y.length) (htl : tab.length = i + 1) (hrow : ∀ p, p ≤ i → (tab.getD p []).length = Y.length)
    (ht1 : ∀ p, p < i → ∀ q, q < Y.length → bt tab p q = gt (ixF ops) (ng X p).1 (ng Y q).1) (ht2 : ∀ q, q < j → bt tab i q = gt (ixF ops) (ng X i).1 (ng Y q).1)
    (hnp : NoP (ng X i).1) (hkt : (ng Y j).1.sort ≠ nul → (ng Y j).1.kids = []) (hks : (ng X i).1.sort = nul → (ng X i).1.name ∈ ops) (hkq : (ng Y j).1.sort = nul → (ng Y j).1.name ∈ ops) (hsz : (ng X i).1.size ≤ 1000000) (hszq : (ng Y j).1.size ≤ 1000000) (hol : ops.length ≤ 1000000) (hXn : X.length ≤ 1000000) (hYn : Y.length ≤ 1000000) :
    Calls Tryz.prog 79 #[ov, .agg #[xl, xk], .agg #[yl, yk], tv, natV i, natV j] w fun e w' => e = .returned (.bool (gt (ixF ops) (ng X i).1 (ng Y j).1)) ∧ Ext w w' := by
  have HO := Lib.hid hO
  have HI := Lib.hid hi
  have HJ := Lib.hid hj
  have HOL := Lib.hid hol
  obtain ⟨xa, xc, rfl⟩ := hXl.shape
  obtain ⟨ya, yc, rfl⟩ := hYl.shape
  obtain ⟨xka, xkc, rfl⟩ := hXk.shape
  obtain ⟨yka, ykc, rfl⟩ := hYk.shape
  obtain ⟨ta0, tc0, rfl⟩ := hTb.shape
  obtain ⟨oa, oc, rfl⟩ := SlR.shape hO
  rw [htl] at hTb ⊢
  simp only [List.length_map] at hXl hYl hXk hYk ⊢
  obtain ⟨gx, ox, rfl, hxl⟩ := tl_cells hXl (by omega)
  obtain ⟨gy, oy, rfl, hyl⟩ := tl_cells hYl (by omega)
  obtain ⟨gkx, okx, ka, kc, rfl, gr, or_, hxk⟩ := kl_cells hXk i hi
  obtain ⟨gky, oky, ja, jc, rfl, gs, os_, hyk⟩ := kl_cells hYk j hj
  obtain ⟨gt_, ot, rfl, RG, RO, RC, htb⟩ := tb_cells hTb (by omega) (m := Y.length) (fun p hp => hrow p (by omega)) (by omega)
  rw [htl] at htb
  obtain ⟨sa, sc, s0, s1, s2, hsT⟩ := hxl w (Upd.refl _ _) i hi
  obtain ⟨ta, tc, t0, t1, t2, htT⟩ := hyl w (Upd.refl _ _) j hj
  have HXL := Lib.hid hxl
  have HTB := Lib.hid htb
  have hpx := fun k (h : k < (ng X i).2.length) => hX.part hi h
  have hpy := fun k (h : k < (ng Y j).2.length) => hY.part hj h
  have hlx := hX.len hi
  have hly := hY.len hj
  have HXKR := Lib.hid hxk
  have HYKR := Lib.hid hyk
  obtain ⟨⟨sT, KX⟩, hXi⟩ : ∃ x, ng X i = x := ⟨_, rfl⟩
  obtain ⟨⟨tT, KY⟩, hYj⟩ : ∃ x, ng Y j = x := ⟨_, rfl⟩
  have HSS0 : Hid ((ng X i).1 = sT) := Lib.hid (by rw [hXi])
  have HTT0 : Hid ((ng Y j).1 = tT) := Lib.hid (by rw [hYj])
  rw [hXi] at hpx hlx HXKR s0 s1 s2 hsT hnp hks hsz ht2
  rw [hYj] at hpy hly HYKR t0 t1 t2 htT hkt hkq hszq
  rw [hXi, hYj]
  have HT1 := Lib.hid ht1
  have HT2 := Lib.hid ht2
  clear hXi hYj hxl hyl hxk hyk htb ht1 ht2 hXl hYl hXk hYk hTb hX hY hrow htl
  obtain ⟨sn, ss, SK⟩ := sT
  obtain ⟨tn, ts, TK⟩ := tT
  dsimp only [Tm.name, Tm.sort, Tm.kids] at hpx hpy hlx hly s0 s1 s2 hsT t0 t1 t2 htT hnp hkt hks hkq hsz hszq HXKR HYKR HT2 ⊢
  have HPX := Lib.hid hpx
  have HPY := Lib.hid hpy
  have HLX := Lib.hid hlx
  have HLY := Lib.hid hly
  have HS := Lib.hid hsT
  have HT := Lib.hid htT
  have HSR : Hid (TmR S w (.mk sn ss SK) (.agg #[.string sn, .string ss, .slice sa SK.length sc])) := Lib.hid ⟨sa, sc, rfl, hsT⟩
  have HTR : Hid (TmR S w (.mk tn ts TK) (.agg #[.string tn, .string ts, .slice ta TK.length tc])) := Lib.hid ⟨ta, tc, rfl, htT⟩
  have HNOP := Lib.hid hnp
  have HTK := Lib.hid hkt
  have HKS0 := Lib.hid hks
  have HKT := Lib.hid hkq
  have HS0 := Lib.hid hsz
  have HSZ : Hid (∀ x ∈ SK, x.size ≤ 1000000) := Lib.hid (fun x hx => by have := size_kid (t := .mk sn ss SK) hx; omega)
  have hsl : SK.length ≤ 1000000 := by have h1 := length_le_sizes SK; rw [size_eq] at hsz; simp only [Tm.kids] at hsz; omega
  have hkx1 : KX.length ≤ 1000000 := by omega
  have htl : TK.length ≤ 1000000 := by have h1 := length_le_sizes TK; rw [size_eq] at hszq; simp only [Tm.kids] at hszq; omega
  have hky1 : KY.length ≤ 1000000 := by omega
  have hi1 : (i : Int) < (X.length : Int) := by omega
  have hj1 : (j : Int) < (Y.length : Int) := by omega
  have hi0 : (0 : Int) ≤ (i : Int) := by omega
  have hj0 : (0 : Int) ≤ (j : Int) := by omega
  have hi2 : (i : Int) < ((i + 1 : Nat) : Int) := by omega
  clear hpx hpy hlx hly hsT htT hnp hkt hks hkq hsz hszq hO
  obtain ⟨r, hr⟩ : ∃ r, ixF ops = r := ⟨_, rfl⟩
  have HRR : Hid (r = ixF ops) := Lib.hid hr.symm
  rw [hr] at HT1 HT2 ⊢
  clear hr
  have HZ := Lib.hid (((((Upd.refl (fun _ => False) w).alloc (.cells #[.slice (some ⟨gx, ox, none⟩) X.length xc, .slice (some ⟨gkx, okx, none⟩) X.length xkc] 118)).alloc (.cells #[.slice (some ⟨gy, oy, none⟩) Y.length yc, .slice (some ⟨gky, oky, none⟩) Y.length ykc] 118)).alloc (.cells #[.string sn, .string ss, .slice sa SK.length sc] 25)).alloc (.cells #[.string tn, .string ts, .slice ta TK.length tc] 25))
  have HBX := Lib.hid (allocOld (allocOld (allocOld (alloc0 w (.cells #[.slice (some ⟨gx, ox, none⟩) X.length xc, .slice (some ⟨gkx, okx, none⟩) X.length xkc] 118)) (.cells #[.slice (some ⟨gy, oy, none⟩) Y.length yc, .slice (some ⟨gky, oky, none⟩) Y.length ykc] 118)) (.cells #[.string sn, .string ss, .slice sa SK.length sc] 25)) (.cells #[.string tn, .string ts, .slice ta TK.length tc] 25))
  have HBY := Lib.hid (allocOld (allocOld (alloc_at (w.alloc (.cells #[.slice (some ⟨gx, ox, none⟩) X.length xc, .slice (some ⟨gkx, okx, none⟩) X.length xkc] 118)) (.cells #[.slice (some ⟨gy, oy, none⟩) Y.length yc, .slice (some ⟨gky, oky, none⟩) Y.length ykc] 118) (n := w.heap.size + 1) (by simp)) (.cells #[.string sn, .string ss, .slice sa SK.length sc] 25)) (.cells #[.string tn, .string ts, .slice ta TK.length tc] 25))
  have HBS := Lib.hid (allocOld (alloc_at ((w.alloc (.cells #[.slice (some ⟨gx, ox, none⟩) X.length xc, .slice (some ⟨gkx, okx, none⟩) X.length xkc] 118)).alloc (.cells #[.slice (some ⟨gy, oy, none⟩) Y.length yc, .slice (some ⟨gky, oky, none⟩) Y.length ykc] 118)) (.cells #[.string sn, .string ss, .slice sa SK.length sc] 25) (n := w.heap.size + 2) (by simp)) (.cells #[.string tn, .string ts, .slice ta TK.length tc] 25))
  have HBT := Lib.hid (alloc_at (((w.alloc (.cells #[.slice (some ⟨gx, ox, none⟩) X.length xc, .slice (some ⟨gkx, okx, none⟩) X.length xkc] 118)).alloc (.cells #[.slice (some ⟨gy, oy, none⟩) Y.length yc, .slice (some ⟨gky, oky, none⟩) Y.length ykc] 118)).alloc (.cells #[.string sn, .string ss, .slice sa SK.length sc] 25)) (.cells #[.string tn, .string ts, .slice ta TK.length tc] 25) (n := w.heap.size + 3) (by simp))
  have HZ2 : Hid (Ext w ((w.alloc (.cells #[.slice (some ⟨gx, ox, none⟩) X.length xc, .slice (some ⟨gkx, okx, none⟩) X.length xkc] 118)).alloc (.cells #[.slice (some ⟨gy, oy, none⟩) Y.length yc, .slice (some ⟨gky, oky, none⟩) Y.length ykc] 118))) := Lib.hid (((Upd.refl (fun _ => False) w).alloc _).alloc _)
  have HZ3 : Hid (Ext w (((w.alloc (.cells #[.slice (some ⟨gx, ox, none⟩) X.length xc, .slice (some ⟨gkx, okx, none⟩) X.length xkc] 118)).alloc (.cells #[.slice (some ⟨gy, oy, none⟩) Y.length yc, .slice (some ⟨gky, oky, none⟩) Y.length ykc] 118)).alloc (.cells #[.string sn, .string ss, .slice sa SK.length sc] 25))) := Lib.hid ((((Upd.refl (fun _ => False) w).alloc _).alloc _).alloc _)
  have s0' := HZ2.out.cell s0 (fun h => h)
  have s1' := HZ2.out.cell s1 (fun h => h)
  have s2' := HZ2.out.cell s2 (fun h => h)
  have t0' := HZ3.out.cell t0 (fun h => h)
  have t1' := HZ3.out.cell t1 (fun h => h)
  have t2' := HZ3.out.cell t2 (fun h => h)
  have bx2 := cellRow (allocOld (alloc0 w (.cells #[.slice (some ⟨gx, ox, none⟩) X.length xc, .slice (some ⟨gkx, okx, none⟩) X.length xkc] 118)) (.cells #[.slice (some ⟨gy, oy, none⟩) Y.length yc, .slice (some ⟨gky, oky, none⟩) Y.length ykc] 118)) 0 _ rfl
  have by3 := cellRow (allocOld (alloc_at (w.alloc (.cells #[.slice (some ⟨gx, ox, none⟩) X.length xc, .slice (some ⟨gkx, okx, none⟩) X.length xkc] 118)) (.cells #[.slice (some ⟨gy, oy, none⟩) Y.length yc, .slice (some ⟨gky, oky, none⟩) Y.length ykc] 118) (n := w.heap.size + 1) (by simp)) (.cells #[.string sn, .string ss, .slice sa SK.length sc] 25)) 0 _ rfl
  have bx0 := cellRow HBX.out 0 (.slice (some ⟨gx, ox, none⟩) X.length xc) rfl
  have bx1 := cellRow HBX.out 1 (.slice (some ⟨gkx, okx, none⟩) X.length xkc) rfl
  have by0 := cellRow HBY.out 0 (.slice (some ⟨gy, oy, none⟩) Y.length yc) rfl
  have by1 := cellRow HBY.out 1 (.slice (some ⟨gky, oky, none⟩) Y.length ykc) rfl
  have bs0 := cellRow HBS.out 0 (.string sn) rfl
  have bs1 := cellRow HBS.out 1 (.string ss) rfl
  have bs2 := cellRow HBS.out 2 (.slice sa SK.length sc) rfl
  have bt0 := cellRow HBT.out 0 (.string tn) rfl
  have bt1 := cellRow HBT.out 1 (.string ts) rfl
  have bt2 := cellRow HBT.out 2 (.slice ta TK.length tc) rfl
  clear s0 s1 s2 t0 t1 t2
  by_cases hs0 : ss.size = 0
  · have hse := empty_is _ hs0
    subst hse
    have HKS : Hid (sn ∈ ops) := Lib.hid (HKS0.out rfl)
    go_enter Tryz.func79, Tryz.ntmps79
    go_wp2_with fail
    clear s0' s1' s2' t0' t1' t2' bx2 by3 bs0 bs1 bs2 bt0 bt1 bt2 bx0 bx1 by0 by1
    go_loopg [15] KX.length (fun gk iv wr => ∃ k : Nat, iv = .int .i64 (k : Int) ∧ gk = KX.length - k ∧ k ≤ KX.length ∧ Hid (∀ j, j < k → ¬ (tg SK j = .mk tn ts TK ∨ gt r (tg SK j) (.mk tn ts TK) = true)) ∧ Hid (Ext w wr) ∧ Hid (wr.heap[w.heap.size]? = some (.cells #[.slice (some ⟨gx, ox, none⟩) X.length xc, .slice (some ⟨gkx, okx, none⟩) X.length xkc] 118 (0, 0))) ∧ Hid (wr.heap[w.heap.size + 1]? = some (.cells #[.slice (some ⟨gy, oy, none⟩) Y.length yc, .slice (some ⟨gky, oky, none⟩) Y.length ykc] 118 (0, 0))) ∧ Hid (wr.heap[w.heap.size + 2]? = some (.cells #[.string sn, .string ⟨#[]⟩, .slice sa SK.length sc] 25 (0, 0))) ∧ Hid (wr.heap[w.heap.size + 3]? = some (.cells #[.string tn, .string ts, .slice ta TK.length tc] 25 (0, 0))))
    case atStart => exact ⟨0, rfl, rfl, Nat.zero_le _, Lib.hid (fun j h => absurd h (Nat.not_lt_zero _)), HZ, HBX, HBY, HBS, HBT⟩
    case round =>
      clear HBX HBY HBS HBT
      obtain ⟨k, rfl, rfl, hk, HC, HE, HBX, HBY, HBS, HBT⟩ := hrel
      have bx0 := cellRow HBX.out 0 (.slice (some ⟨gx, ox, none⟩) X.length xc) rfl
      have bx1 := cellRow HBX.out 1 (.slice (some ⟨gkx, okx, none⟩) X.length xkc) rfl
      have by0 := cellRow HBY.out 0 (.slice (some ⟨gy, oy, none⟩) Y.length yc) rfl
      have by1 := cellRow HBY.out 1 (.slice (some ⟨gky, oky, none⟩) Y.length ykc) rfl
      have bs0 := cellRow HBS.out 0 (.string sn) rfl
      have bs1 := cellRow HBS.out 1 (.string ⟨#[]⟩) rfl
      have bs2 := cellRow HBS.out 2 (.slice sa SK.length sc) rfl
      have bt0 := cellRow HBT.out 0 (.string tn) rfl
      have bt1 := cellRow HBT.out 1 (.string ts) rfl
      have bt2 := cellRow HBT.out 2 (.slice ta TK.length tc) rfl
      obtain ⟨xk0, hkx⟩ := HXKR.out wr HE.out
      by_cases hlt : k < KX.length
      · obtain ⟨hka, hkr⟩ := hkx k hlt
        subst hka
        have hpk := HPX.out k hlt
        obtain ⟨p, hp⟩ : ∃ p, KX.getD k 0 = p := ⟨_, rfl⟩
        rw [hp] at hkr hpk
        obtain ⟨hpi, hpt⟩ := hpk
        have hpX : p < X.length := by have := HI.out; omega
        obtain ⟨pa, pc, q0, q1, q2, hpT⟩ := HXL.out wr HE.out p hpX
        obtain ⟨r0, r1⟩ := HTB.out wr HE.out p (by omega) j HJ.out
        have hval := HT1.out p hpi j HJ.out
        rw [HTT0.out] at hval
        rw [hval] at r1
        rw [hpt] at q0 q1 q2 hpT r1
        have z0 : (0 : Int) ≤ (k : Int) := by omega
        have z1 : (k : Int) < (KX.length : Int) := by omega
        have z2 : decide ((k : Int) < (KX.length : Int)) = true := decide_eq_true z1
        have z2' : decide (k < KX.length) = true := decide_eq_true hlt
        have zp0 : (0 : Int) ≤ (p : Int) := by omega
        have zp1 : (p : Int) < (X.length : Int) := by omega
        have zp2 : (p : Int) < ((i + 1 : Nat) : Int) := by omega
        have hmem : tg SK k ∈ SK := tg_in (by rw [← HLX.out]; exact hlt)
        have HSAME := Lib.hid (fun W (hW : Ext wr W) => same_x (tg SK k) (.mk tn ts TK) _ _ S S W (TmR.ext ⟨pa, pc, rfl, hpT⟩ hW) ((HTR.out.ext HE.out).ext hW) (HSZ.out _ hmem))
        dsimp only [tV, Tm.name, Tm.sort, Tm.kids] at HSAME
        have HCV : Hid (tg SK k = .mk tn ts TK ∨ gt r (tg SK k) (.mk tn ts TK) = true → gt r (.mk sn ⟨#[]⟩ SK) (.mk tn ts TK) = true) := Lib.hid (fun h => gt_cov r rfl hmem h)
        have HNX : Hid (¬ (tg SK k = .mk tn ts TK ∨ gt r (tg SK k) (.mk tn ts TK) = true) → ∀ j, j < k + 1 → ¬ (tg SK j = .mk tn ts TK ∨ gt r (tg SK j) (.mk tn ts TK) = true)) := Lib.hid (fun h j hj => by
          rcases Nat.lt_succ_iff_lt_or_eq.1 hj with h5 | h5
          · exact HC.out j h5
          · rw [h5]; exact h)
        generalize tg SK k = x at *
        obtain ⟨b1, hb1⟩ : ∃ b, gt r x (.mk tn ts TK) = b := ⟨_, rfl⟩
        rw [hb1] at r1 HCV HNX
        obtain ⟨b2, hb2⟩ : ∃ b, decide (x = .mk tn ts TK) = b := ⟨_, rfl⟩
        rw [hb2] at HSAME
        have HB2 := Lib.hid hb2
        have xq0 := fun x : XW wr => x.ext.cell q0 (fun h => h)
        have xq1 := fun x : XW wr => x.ext.cell q1 (fun h => h)
        have xq2 := fun x : XW wr => x.ext.cell q2 (fun h => h)
        have xr0 := fun x : XW wr => x.ext.cell r0 (fun h => h)
        have xr1 := fun x : XW wr => x.ext.cell r1 (fun h => h)
        have xbx0 := fun x : XW wr => x.ext.cell bx0 (fun h => h)
        have xbx1 := fun x : XW wr => x.ext.cell bx1 (fun h => h)
        have xbs0 := fun x : XW wr => x.ext.cell bs0 (fun h => h)
        have xbs1 := fun x : XW wr => x.ext.cell bs1 (fun h => h)
        have xbs2 := fun x : XW wr => x.ext.cell bs2 (fun h => h)
        have xbt0 := fun x : XW wr => x.ext.cell bt0 (fun h => h)
        have xbt1 := fun x : XW wr => x.ext.cell bt1 (fun h => h)
        have xbt2 := fun x : XW wr => x.ext.cell bt2 (fun h => h)
        have hrfs := Upd.refl (fun _ => False) wr
        clear hb1 hb2 hp hpT hval hpt hmem q0 q1 q2 r0 r1 hkx
        go_wp2_with fail
        clear bs0 bs1 bs2 bt0 bt1 bt2 by0 by1 xk0 hkr bx0 bx1
        cases b1
        · cases b2
          · skip
            refine wp_region_ext wr (by assumption) (by kernel_rfl) (by kernel_rfl) ?_
            repeat (first | go_big_quiet_skip | (go_big_quiet_want; go_big_quiet_op; first | go_big_quiet_on | (apply Exists.intro; refine ⟨fun x => ?_, ?_⟩; (go_at_call 33; exact XW.call (HSAME.out x.val x.ext)); go_big_quiet_on)))
            refine wpQuiet_nil ?_
            rintro w8 ⟨⟨_, hyw8⟩, rfl⟩
            try dsimp only
            have HN := Lib.hid (HNX.out (by rintro (h | h); exact absurd h (of_decide_eq_false HB2.out); cases h))
            have HE8 := Lib.hid (HE.out.trans hyw8)
            have HBX8 := Lib.hid (hyw8.heap HBX.out (fun h => h))
            have HBY8 := Lib.hid (hyw8.heap HBY.out (fun h => h))
            have HBS8 := Lib.hid (hyw8.heap HBS.out (fun h => h))
            have HBT8 := Lib.hid (hyw8.heap HBT.out (fun h => h))
            go_wp2_with fail
            go_roundg (KX.length - (k + 1))
            case measure => omega
            case rel => exact ⟨k + 1, by go_num, rfl, by omega, HN, HE8, HBX8, HBY8, HBS8, HBT8⟩
          · skip
            refine wp_region_ext wr (by assumption) (by kernel_rfl) (by kernel_rfl) ?_
            repeat (first | go_big_quiet_skip | (go_big_quiet_want; go_big_quiet_op; first | go_big_quiet_on | (apply Exists.intro; refine ⟨fun x => ?_, ?_⟩; (go_at_call 33; exact XW.call (HSAME.out x.val x.ext)); go_big_quiet_on)))
            refine wpQuiet_nil ?_
            rintro w8 ⟨⟨_, hyw8⟩, rfl⟩
            try dsimp only
            have HV := Lib.hid (HCV.out (.inl (of_decide_eq_true HB2.out)))
            have HE8 := Lib.hid (HE.out.trans hyw8)
            go_wp2_with fail
            go_ret
            rw [HV.out]
            exact ⟨rfl, HE8.out⟩
        · skip
          refine wp_region_ext wr (by assumption) (by kernel_rfl) (by kernel_rfl) ?_
          repeat (first | go_big_quiet_skip | (go_big_quiet_want; go_big_quiet_op; first | go_big_quiet_on | (apply Exists.intro; refine ⟨fun x => ?_, ?_⟩; (go_at_call 33; exact XW.call (HSAME.out x.val x.ext)); go_big_quiet_on)))
          refine wpQuiet_nil ?_
          rintro w8 ⟨⟨_, hyw8⟩, rfl⟩
          try dsimp only
          have HV := Lib.hid (HCV.out (.inr (by simp)))
          have HE8 := Lib.hid (HE.out.trans hyw8)
          go_wp2_with fail
          go_ret
          rw [HV.out]
          exact ⟨rfl, HE8.out⟩
      · obtain rfl : k = KX.length := by omega
        have z2 : decide ((KX.length : Int) < (KX.length : Int)) = false := decide_eq_false (by omega)
        have HNC : Hid (¬ Cov r (.mk sn ⟨#[]⟩ SK) (.mk tn ts TK)) := Lib.hid (not_cov_of (fun j hj => HC.out j (by rw [HLX.out]; exact hj)))
        clear hkx
        by_cases ht0 : ts.size = 0
        · have hte := empty_is _ ht0
          subst hte
          go_wp2_with fail
          obtain ⟨wa, hwa⟩ : ∃ wa, wa = wr := ⟨_, rfl⟩
          subst hwa
          clear xk0 bx0 bx1 by0 by1 bs0 bs1 bs2 bt0 bt1 bt2 z2
          go_loopg [17] KY.length (fun gk iv wr => ∃ k : Nat, iv = .int .i64 (k : Int) ∧ gk = KY.length - k ∧ k ≤ KY.length ∧ Hid (∀ j, j < k → gt r (.mk sn ⟨#[]⟩ SK) (tg TK j) = true) ∧ Hid (Ext w wr) ∧ Hid (wr.heap[w.heap.size]? = some (.cells #[.slice (some ⟨gx, ox, none⟩) X.length xc, .slice (some ⟨gkx, okx, none⟩) X.length xkc] 118 (0, 0))) ∧ Hid (wr.heap[w.heap.size + 1]? = some (.cells #[.slice (some ⟨gy, oy, none⟩) Y.length yc, .slice (some ⟨gky, oky, none⟩) Y.length ykc] 118 (0, 0))) ∧ Hid (wr.heap[w.heap.size + 2]? = some (.cells #[.string sn, .string ⟨#[]⟩, .slice sa SK.length sc] 25 (0, 0))) ∧ Hid (wr.heap[w.heap.size + 3]? = some (.cells #[.string tn, .string ⟨#[]⟩, .slice ta TK.length tc] 25 (0, 0))))
          case atStart => exact ⟨0, rfl, rfl, Nat.zero_le _, Lib.hid (fun j h => absurd h (Nat.not_lt_zero _)), HE, HBX, HBY, HBS, HBT⟩
          case round =>
            clear HE HBX HBY HBS HBT HC
            obtain ⟨k, rfl, rfl, hk, HC, HE, HBX, HBY, HBS, HBT⟩ := hrel
            have bx0 := cellRow HBX.out 0 (.slice (some ⟨gx, ox, none⟩) X.length xc) rfl
            have bx1 := cellRow HBX.out 1 (.slice (some ⟨gkx, okx, none⟩) X.length xkc) rfl
            have by0 := cellRow HBY.out 0 (.slice (some ⟨gy, oy, none⟩) Y.length yc) rfl
            have by1 := cellRow HBY.out 1 (.slice (some ⟨gky, oky, none⟩) Y.length ykc) rfl
            have bs0 := cellRow HBS.out 0 (.string sn) rfl
            have bs1 := cellRow HBS.out 1 (.string ⟨#[]⟩) rfl
            have bs2 := cellRow HBS.out 2 (.slice sa SK.length sc) rfl
            have bt0 := cellRow HBT.out 0 (.string tn) rfl
            have bt1 := cellRow HBT.out 1 (.string ⟨#[]⟩) rfl
            have bt2 := cellRow HBT.out 2 (.slice ta TK.length tc) rfl
            obtain ⟨yk0, hky⟩ := HYKR.out wr HE.out
            by_cases hlt : k < KY.length
            · obtain ⟨hka, hkr⟩ := hky k hlt
              subst hka
              have hpk := HPY.out k hlt
              obtain ⟨p, hp⟩ : ∃ p, KY.getD k 0 = p := ⟨_, rfl⟩
              rw [hp] at hkr hpk
              obtain ⟨hpj, hpt⟩ := hpk
              have hpY : p < Y.length := by have := HJ.out; omega
              obtain ⟨r0, r1⟩ := HTB.out wr HE.out i (by omega) p hpY
              have hval := HT2.out p hpj
              rw [hpt] at hval
              rw [hval] at r1
              have z0 : (0 : Int) ≤ (k : Int) := by omega
              have z1 : (k : Int) < (KY.length : Int) := by omega
              have z2 : decide ((k : Int) < (KY.length : Int)) = true := decide_eq_true z1
              have z2' : decide (k < KY.length) = true := decide_eq_true hlt
              have zp0 : (0 : Int) ≤ (p : Int) := by omega
              have zp1 : (p : Int) < (Y.length : Int) := by omega
              have hmem : tg TK k ∈ TK := tg_in (by rw [← HLY.out]; exact hlt)
              have HPT : Hid (gt r (.mk sn ⟨#[]⟩ SK) (tg TK k) = false → gt r (.mk sn ⟨#[]⟩ SK) (.mk tn ⟨#[]⟩ TK) = false) := Lib.hid (fun h => gt_part r HNC.out hmem h)
              have HNX : Hid (gt r (.mk sn ⟨#[]⟩ SK) (tg TK k) = true → ∀ j, j < k + 1 → gt r (.mk sn ⟨#[]⟩ SK) (tg TK j) = true) := Lib.hid (fun h j hj => by
                rcases Nat.lt_succ_iff_lt_or_eq.1 hj with h5 | h5
                · exact HC.out j h5
                · rw [h5]; exact h)
              generalize tg TK k = x at *
              obtain ⟨b1, hb1⟩ : ∃ b, gt r (.mk sn ⟨#[]⟩ SK) x = b := ⟨_, rfl⟩
              rw [hb1] at r1 HPT HNX
              clear hb1 hp hval hpt hmem hky
              go_wp2_with fail
              go_quiet (fail)
              clear bs0 bs1 bs2 bt0 bt1 bt2 by0 by1 bx0 bx1 yk0 hkr r0 r1
              cases b1
              · have HV := Lib.hid (HPT.out (by simp))
                go_wp2_with fail
                go_ret
                rw [HV.out]
                exact ⟨rfl, HE.out.drewN' _⟩
              · have HN := Lib.hid (HNX.out (by simp))
                go_wp2_with fail
                go_roundg (KY.length - (k + 1))
                case measure => omega
                case rel => exact ⟨k + 1, by go_num, rfl, by omega, HN, Lib.hid (HE.out.drewN' _), HBX, HBY, HBS, HBT⟩
            · obtain rfl : k = KY.length := by omega
              have z2 : decide ((KY.length : Int) < (KY.length : Int)) = false := decide_eq_false (by omega)
              have HAL : Hid (∀ k ∈ TK, gt r (.mk sn ⟨#[]⟩ SK) k = true) := Lib.hid (all_of_tg (fun j hj => HC.out j (by rw [HLY.out]; exact hj)))
              clear hky
              have HI1 := Lib.hid (index_e ops sn _ S wr (StR.ext HO.out HE.out) HOL.out)
              go_wp2_with fail
              refine HI1.out.mono ?_
              rintro e w5 ⟨rfl, hw5⟩
              have HE5 := Lib.hid (HE.out.trans hw5)
              have HBX8 := Lib.hid (hw5.heap HBX.out (fun h => h))
              have HBY8 := Lib.hid (hw5.heap HBY.out (fun h => h))
              have HBS8 := Lib.hid (hw5.heap HBS.out (fun h => h))
              have HBT8 := Lib.hid (hw5.heap HBT.out (fun h => h))
              clear hw5 z2 yk0 HE HBX HBY HBS HBT bx0 bx1 by0 by1 bs0 bs1 bs2 bt0 bt1 bt2
              have HBX := HBX8
              have HBY := HBY8
              have HBS := HBS8
              have HBT := HBT8
              clear HBX8 HBY8 HBS8 HBT8
              have bx0 := cellRow HBX.out 0 (.slice (some ⟨gx, ox, none⟩) X.length xc) rfl
              have bx1 := cellRow HBX.out 1 (.slice (some ⟨gkx, okx, none⟩) X.length xkc) rfl
              have by0 := cellRow HBY.out 0 (.slice (some ⟨gy, oy, none⟩) Y.length yc) rfl
              have by1 := cellRow HBY.out 1 (.slice (some ⟨gky, oky, none⟩) Y.length ykc) rfl
              have bs0 := cellRow HBS.out 0 (.string sn) rfl
              have bs1 := cellRow HBS.out 1 (.string ⟨#[]⟩) rfl
              have bs2 := cellRow HBS.out 2 (.slice sa SK.length sc) rfl
              have bt0 := cellRow HBT.out 0 (.string tn) rfl
              have bt1 := cellRow HBT.out 1 (.string ⟨#[]⟩) rfl
              have bt2 := cellRow HBT.out 2 (.slice ta TK.length tc) rfl
              have HI2 := Lib.hid (index_e ops tn _ S w5 (StR.ext HO.out HE5.out) HOL.out)
              go_wp2_with fail
              refine HI2.out.mono ?_
              rintro e w6 ⟨rfl, hw6⟩
              have HE6 := Lib.hid (HE5.out.trans hw6)
              have HBX8 := Lib.hid (hw6.heap HBX.out (fun h => h))
              have HBY8 := Lib.hid (hw6.heap HBY.out (fun h => h))
              have HBS8 := Lib.hid (hw6.heap HBS.out (fun h => h))
              have HBT8 := Lib.hid (hw6.heap HBT.out (fun h => h))
              clear hw6 HE5 HBX HBY HBS HBT bx0 bx1 by0 by1 bs0 bs1 bs2 bt0 bt1 bt2 HI1 HI2
              have HBX := HBX8
              have HBY := HBY8
              have HBS := HBS8
              have HBT := HBT8
              clear HBX8 HBY8 HBS8 HBT8
              have bx0 := cellRow HBX.out 0 (.slice (some ⟨gx, ox, none⟩) X.length xc) rfl
              have bx1 := cellRow HBX.out 1 (.slice (some ⟨gkx, okx, none⟩) X.length xkc) rfl
              have by0 := cellRow HBY.out 0 (.slice (some ⟨gy, oy, none⟩) Y.length yc) rfl
              have by1 := cellRow HBY.out 1 (.slice (some ⟨gky, oky, none⟩) Y.length ykc) rfl
              have bs0 := cellRow HBS.out 0 (.string sn) rfl
              have bs1 := cellRow HBS.out 1 (.string ⟨#[]⟩) rfl
              have bs2 := cellRow HBS.out 2 (.slice sa SK.length sc) rfl
              have bt0 := cellRow HBT.out 0 (.string tn) rfl
              have bt1 := cellRow HBT.out 1 (.string ⟨#[]⟩) rfl
              have bt2 := cellRow HBT.out 2 (.slice ta TK.length tc) rfl
              have hs1 : ixI ops sn = (ixF ops sn : Int) := if_pos HKS.out
              have ht1 : ixI ops tn = (ixF ops tn : Int) := if_pos (HKT.out rfl)
              rw [hs1, ht1]
              by_cases hne : sn = tn
              · have HNE := Lib.hid hne
                have t1 : ((ixF ops sn : Int) != (ixF ops tn : Int)) = false := by rw [hne]; simp
                have t1' : (ixF ops sn : Int) = (ixF ops tn : Int) := by rw [hne]
                clear hne hs1 ht1
                generalize (ixF ops sn : Int) = A at *
                generalize (ixF ops tn : Int) = B at *
                subst t1'
                by_cases hln : SK.length = TK.length
                · have HLN := Lib.hid hln
                  have HV0 : Hid (gt r (.mk sn ⟨#[]⟩ SK) (.mk tn ⟨#[]⟩ TK) = lexG (gt r) SK TK) := Lib.hid (gt_lex r HNC.out rfl rfl HAL.out HNE.out hln)
                  have t2 : ((SK.length : Int) != (TK.length : Int)) = false := by rw [hln]; simp
                  have t3 : (SK.length : Int) = (TK.length : Int) := by rw [hln]
                  clear hln
                  go_wp2_with fail
                  obtain ⟨wa, hwa⟩ : ∃ wa, wa = w6 := ⟨_, rfl⟩
                  clear bx0 bx1 by0 by1 bs0 bs1 bs2 bt0 bt1 bt2 t1 t2
                  go_loopg [20] SK.length (fun gk iv wr => ∃ k : Nat, iv = .int .i64 (k : Int) ∧ gk = SK.length - k ∧ k ≤ SK.length ∧ Hid (∀ j, j < k → tg SK j = tg TK j) ∧ Hid (Ext w wr) ∧ Hid (wr.heap[w.heap.size]? = some (.cells #[.slice (some ⟨gx, ox, none⟩) X.length xc, .slice (some ⟨gkx, okx, none⟩) X.length xkc] 118 (0, 0))) ∧ Hid (wr.heap[w.heap.size + 1]? = some (.cells #[.slice (some ⟨gy, oy, none⟩) Y.length yc, .slice (some ⟨gky, oky, none⟩) Y.length ykc] 118 (0, 0))) ∧ Hid (wr.heap[w.heap.size + 2]? = some (.cells #[.string sn, .string ⟨#[]⟩, .slice sa SK.length sc] 25 (0, 0))) ∧ Hid (wr.heap[w.heap.size + 3]? = some (.cells #[.string tn, .string ⟨#[]⟩, .slice ta TK.length tc] 25 (0, 0))))
                  case atStart => exact ⟨0, rfl, rfl, Nat.zero_le _, Lib.hid (fun j h => absurd h (Nat.not_lt_zero _)), HE6, HBX, HBY, HBS, HBT⟩
                  case round =>
                    clear HE6 HBX HBY HBS HBT HC
                    obtain ⟨k, rfl, rfl, hk, HC, HE, HBX, HBY, HBS, HBT⟩ := hrel
                    have bx0 := cellRow HBX.out 0 (.slice (some ⟨gx, ox, none⟩) X.length xc) rfl
                    have bx1 := cellRow HBX.out 1 (.slice (some ⟨gkx, okx, none⟩) X.length xkc) rfl
                    have by0 := cellRow HBY.out 0 (.slice (some ⟨gy, oy, none⟩) Y.length yc) rfl
                    have by1 := cellRow HBY.out 1 (.slice (some ⟨gky, oky, none⟩) Y.length ykc) rfl
                    have bs0 := cellRow HBS.out 0 (.string sn) rfl
                    have bs1 := cellRow HBS.out 1 (.string ⟨#[]⟩) rfl
                    have bs2 := cellRow HBS.out 2 (.slice sa SK.length sc) rfl
                    have bt0 := cellRow HBT.out 0 (.string tn) rfl
                    have bt1 := cellRow HBT.out 1 (.string ⟨#[]⟩) rfl
                    have bt2 := cellRow HBT.out 2 (.slice ta TK.length tc) rfl
                    by_cases hlt : k < SK.length
                    · have hltT : k < TK.length := by have := HLN.out; omega
                      have hkX : k < KX.length := by have := HLX.out; omega
                      have hkY : k < KY.length := by have := HLY.out; omega
                      obtain ⟨gs2, os2, hsa, _, hsat⟩ := (HS.out.ext HE.out).at_ (by omega)
                      subst hsa
                      obtain ⟨sb, sd, sq0, sq1, sq2, hsT⟩ := hsat k hlt
                      obtain ⟨gt2, ot2, hta, _, htat⟩ := (HT.out.ext HE.out).at_ (by omega)
                      subst hta
                      obtain ⟨tb, td, tq0, tq1, tq2, htT⟩ := htat k hltT
                      rw [← Nat.add_assoc] at sq1 sq2 tq1 tq2
                      obtain ⟨xk0, hkx⟩ := HXKR.out wr HE.out
                      obtain ⟨yk0, hky⟩ := HYKR.out wr HE.out
                      obtain ⟨hka, hkxr⟩ := hkx k hkX
                      obtain ⟨hkb, hkyr⟩ := hky k hkY
                      subst hka; subst hkb
                      obtain ⟨hpi, hpt⟩ := HPX.out k hkX
                      obtain ⟨hqj, hqt⟩ := HPY.out k hkY
                      obtain ⟨p, hp⟩ : ∃ p, KX.getD k 0 = p := ⟨_, rfl⟩
                      rw [hp] at hkxr hpi hpt
                      obtain ⟨q, hq⟩ : ∃ q, KY.getD k 0 = q := ⟨_, rfl⟩
                      rw [hq] at hkyr hqj hqt
                      obtain ⟨r0, r1⟩ := HTB.out wr HE.out p (by omega) q (by have := HJ.out; omega)
                      have hval := HT1.out p hpi q (by have := HJ.out; omega)
                      rw [hpt, hqt] at hval
                      rw [hval] at r1
                      have z0 : (0 : Int) ≤ (k : Int) := by omega
                      have z1 : (k : Int) < (SK.length : Int) := by omega
                      have z2 : decide ((k : Int) < (SK.length : Int)) = true := decide_eq_true z1
                      have z2' : decide (k < SK.length) = true := decide_eq_true hlt
                      have z3 : (k : Int) < (TK.length : Int) := by omega
                      have z4 : (k : Int) < (KX.length : Int) := by omega
                      have z5 : (k : Int) < (KY.length : Int) := by omega
                      have zp0 : (0 : Int) ≤ (p : Int) := by omega
                      have zp1 : (p : Int) < ((i + 1 : Nat) : Int) := by omega
                      have zq0 : (0 : Int) ≤ (q : Int) := by omega
                      have zq1 : (q : Int) < (Y.length : Int) := by have := HJ.out; omega
                      have hmem : tg SK k ∈ SK := tg_in hlt
                      have HSAME := Lib.hid (fun W (hW : Ext wr W) => same_x (tg SK k) (tg TK k) _ _ S S W (TmR.ext ⟨sb, sd, rfl, hsT⟩ hW) (TmR.ext ⟨tb, td, rfl, htT⟩ hW) (HSZ.out _ hmem))
                      dsimp only [tV] at HSAME
                      have HLX2 : Hid (tg SK k ≠ tg TK k → lexG (gt r) SK TK = gt r (tg SK k) (tg TK k)) := Lib.hid (fun h => lexG_at (gt r) k SK TK hlt hltT (fun j hj => HC.out j hj) h)
                      have HNX : Hid (tg SK k = tg TK k → ∀ j, j < k + 1 → tg SK j = tg TK j) := Lib.hid (fun h j hj => by
                        rcases Nat.lt_succ_iff_lt_or_eq.1 hj with h5 | h5
                        · exact HC.out j h5
                        · rw [h5]; exact h)
                      generalize tg SK k = x at *
                      generalize tg TK k = y at *
                      obtain ⟨b2, hb2⟩ : ∃ b, decide (x = y) = b := ⟨_, rfl⟩
                      rw [hb2] at HSAME
                      have HB2 := Lib.hid hb2
                      have HKX := Lib.hid hkxr
                      have HKY := Lib.hid hkyr
                      have HX0 := Lib.hid xk0
                      have HY0 := Lib.hid yk0
                      have HR0 := Lib.hid r0
                      have HR1 := Lib.hid r1
                      have xsq0 := fun x : XW wr => x.ext.cell sq0 (fun h => h)
                      have xsq1 := fun x : XW wr => x.ext.cell sq1 (fun h => h)
                      have xsq2 := fun x : XW wr => x.ext.cell sq2 (fun h => h)
                      have xtq0 := fun x : XW wr => x.ext.cell tq0 (fun h => h)
                      have xtq1 := fun x : XW wr => x.ext.cell tq1 (fun h => h)
                      have xtq2 := fun x : XW wr => x.ext.cell tq2 (fun h => h)
                      have xbs2 := fun x : XW wr => x.ext.cell bs2 (fun h => h)
                      have xbt2 := fun x : XW wr => x.ext.cell bt2 (fun h => h)
                      have hrfs := Upd.refl (fun _ => False) wr
                      clear hb2 hsT htT hval hpt hqt hmem sq0 sq1 sq2 tq0 tq1 tq2 hkx hky hkxr hkyr xk0 yk0 r0 r1 bx0 bx1 by0 by1 bs0 bs1 bt0 bt1 hp hq
                      go_wp2_with fail
                      clear bs2 bt2
                      cases b2
                      · skip
                        refine wp_region_ext wr (by assumption) (by kernel_rfl) (by kernel_rfl) ?_
                        repeat (first | go_big_quiet_skip | (go_big_quiet_want; go_big_quiet_op; first | go_big_quiet_on | (apply Exists.intro; refine ⟨fun x => ?_, ?_⟩; (go_at_call 33; exact XW.call (HSAME.out x.val x.ext)); go_big_quiet_on)))
                        refine wpQuiet_nil ?_
                        rintro w8 ⟨⟨_, hyw8⟩, rfl⟩
                        try dsimp only
                        have HV := Lib.hid (HLX2.out (of_decide_eq_false HB2.out))
                        have HE8 := Lib.hid (HE.out.trans hyw8)
                        have bx1 := hyw8.cell (cellRow HBX.out 1 (.slice (some ⟨gkx, okx, none⟩) X.length xkc) rfl) (fun h => h)
                        have by1 := hyw8.cell (cellRow HBY.out 1 (.slice (some ⟨gky, oky, none⟩) Y.length ykc) rfl) (fun h => h)
                        have k1 := hyw8.cell HKX.out (fun h => h)
                        have k2 := hyw8.cell HKY.out (fun h => h)
                        have k3 := hyw8.cell HX0.out (fun h => h)
                        have k4 := hyw8.cell HY0.out (fun h => h)
                        have k5 := hyw8.cell HR0.out (fun h => h)
                        have k6 := hyw8.cell HR1.out (fun h => h)
                        clear hyw8 hrfs xsq0 xsq1 xsq2 xtq0 xtq1 xtq2 xbs2 xbt2
                        generalize gt r x y = BB at *
                        go_wp2_with fail
                        go_quiet (fail)
                        go_wp2_with fail
                        go_ret
                        rw [HV0.out, HV.out]
                        exact ⟨rfl, HE8.out.drewN' _⟩
                      · skip
                        refine wp_region_ext wr (by assumption) (by kernel_rfl) (by kernel_rfl) ?_
                        repeat (first | go_big_quiet_skip | (go_big_quiet_want; go_big_quiet_op; first | go_big_quiet_on | (apply Exists.intro; refine ⟨fun x => ?_, ?_⟩; (go_at_call 33; exact XW.call (HSAME.out x.val x.ext)); go_big_quiet_on)))
                        refine wpQuiet_nil ?_
                        rintro w8 ⟨⟨_, hyw8⟩, rfl⟩
                        try dsimp only
                        have HN := Lib.hid (HNX.out (of_decide_eq_true HB2.out))
                        have HE8 := Lib.hid (HE.out.trans hyw8)
                        have HBX8 := Lib.hid (hyw8.heap HBX.out (fun h => h))
                        have HBY8 := Lib.hid (hyw8.heap HBY.out (fun h => h))
                        have HBS8 := Lib.hid (hyw8.heap HBS.out (fun h => h))
                        have HBT8 := Lib.hid (hyw8.heap HBT.out (fun h => h))
                        go_wp2_with fail
                        go_roundg (SK.length - (k + 1))
                        case measure => omega
                        case rel => exact ⟨k + 1, by go_num, rfl, by omega, HN, HE8, HBX8, HBY8, HBS8, HBT8⟩
                    · obtain rfl : k = SK.length := by omega
                      have z2 : decide ((SK.length : Int) < (SK.length : Int)) = false := decide_eq_false (by omega)
                      have HV : Hid (lexG (gt r) SK TK = false) := Lib.hid (lexG_all (gt r) HLN.out (fun j hj => HC.out j hj))
                      go_wp2_with fail
                      go_ret
                      rw [HV0.out, HV.out]
                      exact ⟨rfl, HE.out⟩
                · have HV : Hid (gt r (.mk sn ⟨#[]⟩ SK) (.mk tn ⟨#[]⟩ TK) = false) := Lib.hid (gt_len r HNC.out HNE.out hln)
                  have t2 : ((SK.length : Int) != (TK.length : Int)) = true := by simp; omega
                  have t3 : ¬ (SK.length : Int) = (TK.length : Int) := by omega
                  clear hln
                  go_wp2_with fail
                  go_ret
                  rw [HV.out]
                  exact ⟨rfl, HE6.out⟩
              · have HV : Hid (gt r (.mk sn ⟨#[]⟩ SK) (.mk tn ⟨#[]⟩ TK) = decide (ixF ops sn < ixF ops tn)) := Lib.hid (by rw [gt_name r HNC.out rfl rfl HAL.out hne, HRR.out]; rfl)
                have hx : ixF ops sn ≠ ixF ops tn := fun e => hne (ixF_inj HKS.out (HKT.out rfl) e)
                have t1 : ((ixF ops sn : Int) != (ixF ops tn : Int)) = true := by simp; omega
                have t1' : ¬ (ixF ops sn : Int) = (ixF ops tn : Int) := by omega
                have t2 : decide ((ixF ops sn : Int) < (ixF ops tn : Int)) = decide (ixF ops sn < ixF ops tn) := by
                  rw [Bool.eq_iff_iff, decide_eq_true_eq, decide_eq_true_eq]; omega
                have HT2x := Lib.hid t2
                clear hs1 ht1 hne hx t2
                go_wp2_with fail
                go_ret
                rw [HV.out]
                first
                  | exact ⟨rfl, HE6.out⟩
                  | (rw [HT2x.out]; exact ⟨rfl, HE6.out⟩)
                  | (rw [← HT2x.out]; exact ⟨rfl, HE6.out⟩)
        · obtain ⟨e1, e2, e3, e4⟩ := nonempty_t ts (Nat.pos_of_ne_zero ht0)
          have HV : Hid (gt r (.mk sn ⟨#[]⟩ SK) (.mk tn ts TK) = occ (.mk tn ts TK) (.mk sn ⟨#[]⟩ SK)) := Lib.hid (gt_occ r HNC.out rfl (fun e => ht0 (by show ts.size = 0; rw [show ts = nul from e]; rfl)) (HTK.out (fun e => ht0 (by rw [e]; rfl))) HNOP.out)
          have HOCC := Lib.hid (occurs_x tn ts TK (.mk sn ⟨#[]⟩ SK) _ _ S S wr (HSR.out.ext HE.out) (HTR.out.ext HE.out) HS0.out)
          try dsimp only [tV, Tm.name, Tm.sort, Tm.kids] at HOCC
          generalize occ (.mk tn ts TK) (.mk sn ⟨#[]⟩ SK) = OB at *
          go_wp2_with fail
          refine HOCC.out.mono ?_
          rintro e w8 ⟨rfl, hw8⟩
          have HE8 := Lib.hid (HE.out.trans hw8)
          clear hw8 bx0 bx1 by0 by1 bs0 bs1 bs2 bt0 bt1 bt2 xk0
          go_wp2_with fail
          go_ret
          rw [HV.out]
          exact ⟨rfl, HE8.out⟩
  · obtain ⟨e1, e2, e3, e4⟩ := nonempty_t ss (Nat.pos_of_ne_zero hs0)
    have HV : Hid (gt r (.mk sn ss SK) (.mk tn ts TK) = false) := Lib.hid (gt_leaf r (fun e => hs0 (by show ss.size = 0; rw [show ss = nul from e]; rfl)))
    go_enter Tryz.func79, Tryz.ntmps79
    go_wp2_with fail
    go_ret
    rw [HV.out]
    exact ⟨rfl, HZ.out⟩

end Go.Proofs.YtiimccogojkldaaGreatDoor

/- Subterms gathered. -/
namespace Go.Proofs.YtiimccogojkldaaGreatDoor
open Go.RowKit Go.Hw Go
set_option linter.unusedVariables false
set_option linter.unusedSimpArgs false

open Tm
/-- subterms that are gathered: two rows of one's own; B: their blocks, R: blocks of others -/
structure SubR (R B T : Nat → Prop) (base : Nat) (w : World) (lv kv : Value) (N : List Nt) : Prop where
  rows : ∃ (us ks : List Value) (G : Nat → Prop), us.length = N.length ∧ ks.length = N.length ∧ w.ownsRow base 25 3 lv N.length (tCells (N.map (·.1)) us) ∧ w.ownsRow base 59 1 kv N.length ks ∧
    (∀ i, i < N.length → TlR T w (ng N i).1.kids (ug us i)) ∧ (∀ i, i < N.length → SlR G w 1 (ug ks i) (ng N i).2.length ((ng N i).2.map natV)) ∧ ∀ k, G k → base ≤ k ∧ k < w.heap.size ∧ ¬ B k ∧ ¬ R k
  num : Num N
  blkL : ∀ k, lv.ownBlock = some k → B k
  blkK : ∀ k, kv.ownBlock = some k → B k
  lt : ∀ k, B k → base ≤ k ∧ k < w.heap.size ∧ ¬ R k
  tb : ∀ k, T k → k < base
section
variable {R R' B T F : Nat → Prop} {base : Nat} {w w' : World} {lv kv : Value} {N : List Nt}
theorem SubR.upd (h : SubR R B T base w lv kv N) (hu : Upd F w w') (hF : ∀ k, F k → R k ∧ base ≤ k) : SubR R B T base w' lv kv N := by
  obtain ⟨us, ks, G, h1, h2, h3, h4, h5, h6, h7⟩ := h.rows
  refine ⟨⟨us, ks, G, h1, h2, own_kept h3 hu (fun k hk hf => (h.lt k (h.blkL k hk)).2.2 (hF k hf).1), own_kept h4 hu (fun k hk hf => (h.lt k (h.blkK k hk)).2.2 (hF k hf).1), fun i hi => (h5 i hi).kept hu (fun k hk hf => by have := h.tb k hk; have := (hF k hf).2; omega), fun i hi => (h6 i hi).kept hu (fun k hk hf => (h7 k hk).2.2.2 (hF k hf).1), fun k hk => ⟨(h7 k hk).1, Nat.lt_of_lt_of_le (h7 k hk).2.1 hu.size, (h7 k hk).2.2⟩⟩, h.num, h.blkL, h.blkK, fun k hk => ⟨(h.lt k hk).1, Nat.lt_of_lt_of_le (h.lt k hk).2.1 hu.size, (h.lt k hk).2.2⟩, h.tb⟩
theorem SubR.ext (h : SubR R B T base w lv kv N) (hu : Ext w w') : SubR R B T base w' lv kv N := h.upd hu (fun _ hf => hf.elim)
/-- what is new is of others -/
theorem SubR.reserve (h : SubR R B T base w lv kv N) : SubR (fun k => R k ∨ w.heap.size ≤ k) B T base w lv kv N := by
  obtain ⟨us, ks, G, h1, h2, h3, h4, h5, h6, h7⟩ := h.rows
  refine ⟨⟨us, ks, G, h1, h2, h3, h4, h5, h6, fun k hk => ⟨(h7 k hk).1, (h7 k hk).2.1, (h7 k hk).2.2.1, fun hr => ?_⟩⟩, h.num, h.blkL, h.blkK, fun k hk => ⟨(h.lt k hk).1, (h.lt k hk).2.1, fun hr => ?_⟩, h.tb⟩
  · rcases hr with hr | hr
    · exact (h7 k hk).2.2.2 hr
    · have := (h7 k hk).2.1; omega
  · rcases hr with hr | hr
    · exact (h.lt k hk).2.2 hr
    · have := (h.lt k hk).2.1; omega
theorem SubR.weaken (h : SubR R B T base w lv kv N) (hr : ∀ k, R' k → R k) : SubR R' B T base w lv kv N := by
  obtain ⟨us, ks, G, h1, h2, h3, h4, h5, h6, h7⟩ := h.rows
  exact ⟨⟨us, ks, G, h1, h2, h3, h4, h5, h6, fun k hk => ⟨(h7 k hk).1, (h7 k hk).2.1, (h7 k hk).2.2.1, fun hx => (h7 k hk).2.2.2 (hr k hx)⟩⟩, h.num, h.blkL, h.blkK, fun k hk => ⟨(h.lt k hk).1, (h.lt k hk).2.1, fun hx => (h.lt k hk).2.2 (hr k hx)⟩, h.tb⟩
theorem SubR.shape (h : SubR R B T base w lv kv N) : ∃ a c a' c', lv = .slice a N.length c ∧ kv = .slice a' N.length c' := by
  obtain ⟨us, ks, G, h1, h2, h3, h4, _⟩ := h.rows
  obtain ⟨a, c, e⟩ := own_shape h3
  obtain ⟨a', c', e'⟩ := own_shape h4
  exact ⟨a, c, a', c', e, e'⟩
/-- as they are read -/
theorem SubR.read (h : SubR R B T base w lv kv N) : TlR (fun k => T k ∨ base ≤ k ∧ ¬ R k) w (N.map (·.1)) lv ∧ LlR natV (fun k => T k ∨ base ≤ k ∧ ¬ R k) w kv (N.map (·.2)) := by
  obtain ⟨us, ks, G, h1, h2, h3, h4, h5, h6, h7⟩ := h.rows
  refine ⟨.mk _ us lv (by simp [h1]) (by rw [List.length_map]; exact (SlR.of_own h3).weaken (fun k hk => .inr ⟨(h.lt k (h.blkL k hk)).1, (h.lt k (h.blkL k hk)).2.2⟩)) (fun i hi => ?_), ⟨ks, by simp [h2], by rw [List.length_map]; exact (SlR.of_own h4).weaken (fun k hk => .inr ⟨(h.lt k (h.blkK k hk)).1, (h.lt k (h.blkK k hk)).2.2⟩), fun i hi => ?_⟩⟩
  · rw [List.length_map] at hi
    rw [ng_map1 N i hi]
    exact (h5 i hi).weaken (fun k hk => .inl hk)
  · rw [List.length_map] at hi
    rw [ng_map2 N i hi]
    exact (h6 i hi).weaken (fun k hk => .inr ⟨(h7 k hk).1, (h7 k hk).2.2.2⟩)
theorem SubR.nil (R T : Nat → Prop) (base : Nat) (w : World) (hT : ∀ k, T k → k < base) : SubR R (fun _ => False) T base w (.slice none 0 0) (.slice none 0 0) [] :=
  ⟨⟨[], [], fun _ => False, rfl, rfl, ⟨rfl, .inl ⟨rfl, rfl⟩⟩, ⟨rfl, .inl ⟨rfl, rfl⟩⟩, fun i hi => by simp at hi, fun i hi => by simp at hi, fun k hk => hk.elim⟩, Num.nil, fun k hk => by simp [Value.ownBlock] at hk, fun k hk => by simp [Value.ownBlock] at hk, fun k hk => hk.elim, hT⟩
theorem ug_left {us : List Value} (x : Value) {i : Nat} (h : i < us.length) : ug (us ++ [x]) i = ug us i := by
  unfold ug
  rw [List.getD_eq_getElem?_getD, List.getD_eq_getElem?_getD, List.getElem?_append_left h]
theorem ug_last (us : List Value) (x : Value) : ug (us ++ [x]) us.length = x := by
  unfold ug
  rw [List.getD_eq_getElem?_getD, List.getElem?_concat_length]
  rfl
/-- a term and its numbers behind the others: both rows have grown -/
theorem SubR.push {t : Tm} {u v lv' kv' : Value} {us ks : List Value} {G V R0 : Nat → Prop} {kn : List Nat} (h : SubR R B T base w lv kv N)
    (h1 : us.length = N.length) (h2 : ks.length = N.length) (h5 : ∀ i, i < N.length → TlR T w (ng N i).1.kids (ug us i)) (h6 : ∀ i, i < N.length → SlR G w 1 (ug ks i) (ng N i).2.length ((ng N i).2.map natV)) (h7 : ∀ k, G k → base ≤ k ∧ k < w.heap.size ∧ ¬ B k ∧ ¬ R k)
    (hw : Upd (fun k => B k ∨ R k ∧ base ≤ k ∧ ¬ V k) w w')
    (hL : w'.ownsRow base 25 3 lv' (N.length + 1) (tCells (N.map (·.1)) us ++ [.string t.name, .string t.sort, u])) (hK : w'.ownsRow base 59 1 kv' (N.length + 1) (ks ++ [v]))
    (hbl : ∀ k, lv'.ownBlock = some k → B k ∨ w.heap.size ≤ k ∧ k < w'.heap.size) (hbk : ∀ k, kv'.ownBlock = some k → B k ∨ w.heap.size ≤ k ∧ k < w'.heap.size)
    (hb : base ≤ w.heap.size) (hu : TlR T w t.kids u) (hv : SlR V w 1 v kn.length (kn.map natV)) (hV : ∀ k, V k → R k ∧ base ≤ k ∧ k < w.heap.size) (hR0 : ∀ k, R0 k → R k ∧ k < w.heap.size ∧ ¬ V k)
    (hkl : ∀ k ∈ kn, k < N.length) (hkm : kn.map (fun k => (ng N k).1) = t.kids) :
    SubR R0 (fun k => B k ∨ w.heap.size ≤ k ∧ (lv'.ownBlock = some k ∨ kv'.ownBlock = some k)) T base w' lv' kv' (N ++ [(t, kn)]) := by
  have hlen : (N ++ [(t, kn)]).length = N.length + 1 := by simp
  have hne : ∀ i, i < (N ++ [(t, kn)]).length → i < N.length ∨ i = N.length := fun i hi => by rw [hlen] at hi; omega
  refine ⟨⟨us ++ [u], ks ++ [v], fun k => G k ∨ V k, by simp [h1], by simp [h2], ?_, by rw [hlen]; exact hK, fun i hi => ?_, fun i hi => ?_, fun k hk => ?_⟩, h.num.snoc t kn hkl hkm, fun k hk => ?_, fun k hk => ?_, fun k hk => ?_, h.tb⟩
  · rw [hlen, List.map_append]
    have := tCells_snoc (N.map (·.1)) us t u (by rw [List.length_map]; exact h1)
    rw [show [(t, kn)].map (·.1) = [t] from rfl, this]
    exact hL
  · have hT : ∀ k, T k → ¬ (B k ∨ R k ∧ base ≤ k ∧ ¬ V k) := fun k hk hx => by
      have h8 := h.tb k hk
      rcases hx with hx | hx
      · have := (h.lt k hx).1; omega
      · omega
    rcases hne i hi with hi | rfl
    · rw [ng_left _ hi, ug_left _ (by omega)]
      exact (h5 i hi).kept hw hT
    · rw [ng_last, ← h1, ug_last]
      exact hu.kept hw hT
  · rcases hne i hi with hi | rfl
    · rw [ng_left _ hi, ug_left _ (by omega)]
      exact ((h6 i hi).kept hw (fun k hk hx => by
        rcases hx with hx | hx
        · exact (h7 k hk).2.2.1 hx
        · exact (h7 k hk).2.2.2 hx.1)).weaken (fun k hk => .inl hk)
    · rw [ng_last, ← h2, ug_last]
      exact (hv.kept hw (fun k hk hx => by
        rcases hx with hx | hx
        · exact (h.lt k hx).2.2 (hV k hk).1
        · exact hx.2.2 hk)).weaken (fun k hk => .inr hk)
  · have hlt : base ≤ k ∧ k < w.heap.size ∧ ¬ B k ∧ (R k → V k) := by
      rcases hk with hk | hk
      · exact ⟨(h7 k hk).1, (h7 k hk).2.1, (h7 k hk).2.2.1, fun hr => absurd hr (h7 k hk).2.2.2⟩
      · exact ⟨(hV k hk).2.1, (hV k hk).2.2, fun hx => (h.lt k hx).2.2 (hV k hk).1, fun _ => hk⟩
    refine ⟨hlt.1, Nat.lt_of_lt_of_le hlt.2.1 hw.size, fun hx => ?_, fun hx => (hR0 k hx).2.2 (hlt.2.2.2 (hR0 k hx).1)⟩
    rcases hx with hx | hx
    · exact hlt.2.2.1 hx
    · omega
  · rcases hbl k hk with h8 | h8
    · exact .inl h8
    · exact .inr ⟨h8.1, .inl hk⟩
  · rcases hbk k hk with h8 | h8
    · exact .inl h8
    · exact .inr ⟨h8.1, .inr hk⟩
  · rcases hk with hk | ⟨hk, hk2⟩
    · exact ⟨(h.lt k hk).1, Nat.lt_of_lt_of_le (h.lt k hk).2.1 hw.size, fun hx => (h.lt k hk).2.2 (hR0 k hx).1⟩
    · refine ⟨by omega, ?_, fun hx => by have := (hR0 k hx).2.1; omega⟩
      rcases hk2 with h8 | h8
      · rcases hbl k h8 with h9 | h9
        · have := (h.lt k h9).2.1; omega
        · exact h9.2
      · rcases hbk k h8 with h9 | h9
        · have := (h.lt k h9).2.1; omega
        · exact h9.2
end

end Go.Proofs.YtiimccogojkldaaGreatDoor

/- add of the reference. -/
namespace Go.Proofs.YtiimccogojkldaaGreatDoor
open Go.RowKit Go.Hw Go
set_option linter.unusedVariables false
set_option linter.unusedSimpArgs false

open Tm
/-- the rows while the parts of a term are gathered -/
structure AddJ (R B T : Nat → Prop) (base n0 : Nat) (w wr : World) (N : List Nt) (L : List Tm) (lk kk kidv : Value) (Nk : List Nt) (Bk : Nat → Prop) (ks : List Nat) (k c : Nat) : Prop where
  sub : SubR (fun j => R j ∨ (n0 ≤ j ∧ j < n0 + 3) ∨ kidv.ownBlock = some j) Bk T base wr lk kk Nk
  own : wr.ownsRow (n0 + 3) 3 1 kidv k (ks.map natV)
  len : ks.length = k
  map : ks.map (fun q => (ng Nk q).1) = L.take k
  lt : ∀ q ∈ ks, q < Nk.length
  blk : ∀ j, Bk j → B j ∨ n0 + 3 ≤ j
  upd : Upd B w wr
  size : n0 + 3 ≤ wr.heap.size
  pre : N <+: Nk
  cnt : Nk.length = c
  hn : n0 = w.heap.size
  bn : base ≤ n0
  rb : ∀ j, R j → base ≤ j ∧ j < n0
  bb : ∀ j, B j → base ≤ j ∧ j < n0
  al : ∀ i, N.length ≤ i → i < Nk.length → ∃ x ∈ L, (ng Nk i).1 ∈ sbts x
section
variable {R B T B' : Nat → Prop} {base n0 : Nat} {w wr wq w5 w6 w7 w8 : World} {N Nk N' : List Nt} {L : List Tm} {lk kk kidv lk' kk' : Value} {Bk : Nat → Prop} {ks : List Nat} {k c c' : Nat}
theorem AddJ.resB (h : AddJ R B T base n0 w wr N L lk kk kidv Nk Bk ks k c) : ∀ j, Bk j → ¬ (n0 ≤ j ∧ j < n0 + 3) ∧ kidv.ownBlock ≠ some j := fun j hj => by
  have := (h.sub.lt j hj).2.2
  exact ⟨fun x => this (.inr (.inl x)), fun x => this (.inr (.inr x))⟩
theorem AddJ.call (h : AddJ R B T base n0 w wr N L lk kk kidv Nk Bk ks k c) (hq : Ext wr wq) (hs : SubR (fun j => R j ∨ (n0 ≤ j ∧ j < n0 + 3) ∨ kidv.ownBlock = some j) B' T base w5 lk' kk' N') (hu : Upd Bk wq w5)
    (hb : ∀ j, B' j → Bk j ∨ wq.heap.size ≤ j) (hp : Nk <+: N') (hc : N'.length = c') (hst : Upd (fun j => j = n0) w5 w6) {x : Tm} (hxm : x ∈ L) (hal : ∀ i, Nk.length ≤ i → i < N'.length → (ng N' i).1 ∈ sbts x) : AddJ R B T base n0 w w6 N L lk' kk' kidv N' B' ks k c' := by
  have hkid : ∀ j, kidv.ownBlock = some j → n0 + 3 ≤ j := fun j hj => (h.own.lt j hj).1
  refine ⟨hs.upd hst (fun j hj => ⟨.inr (.inl (by omega)), by rw [hj]; exact h.bn⟩), own_kept (own_kept (own_kept h.own hq (fun _ _ x => x)) hu (fun j hj hx => (h.resB j hx).2 hj)) hst (fun j hj hx => by have := hkid j hj; omega),
    h.len, ?_, fun q hq' => Nat.lt_of_lt_of_le (h.lt q hq') hp.length_le, fun j hj => ?_, ((h.upd.ext hq).trans' hu (fun j hj hx => ?_)).trans' hst (fun j hj hx => ?_), ?_, h.pre.trans hp, hc, h.hn, h.bn, h.rb, h.bb, fun i h1 h2 => ?_⟩
  · rw [← h.map]
    exact List.map_congr_left fun q hq' => by rw [ng_pre hp (h.lt q hq')]
  · rcases hb j hj with hx | hx
    · exact h.blk j hx
    · exact .inr (Nat.le_trans (Nat.le_trans h.size hq.size) hx)
  · rcases h.blk j hx with h2 | h2
    · exact h2
    · have := h.hn; omega
  · have := h.hn; omega
  · exact Nat.le_trans (Nat.le_trans (Nat.le_trans h.size hq.size) hu.size) hst.size
  · by_cases h3 : i < Nk.length
    · rw [ng_pre hp h3]; exact h.al i h1 h3
    · exact ⟨x, hxm, hal i (by omega) h2⟩
theorem AddJ.grow {kidv' : Value} {q : Nat} (h : AddJ R B T base n0 w wr N L lk kk kidv Nk Bk ks k c) (hA : Ext wr w7) (hG : Grew (n0 + 3) 3 1 kidv (k + 1) (ks.map natV ++ [natV q]) w7 w8 kidv') (hq : q < Nk.length) (hk : k < L.length) (hx : (ng Nk q).1 = tg L k) :
    AddJ R B T base n0 w w8 N L lk kk kidv' Nk Bk (ks ++ [q]) (k + 1) c := by
  have hkid : ∀ j, kidv.ownBlock = some j → n0 + 3 ≤ j := fun j hj => (h.own.lt j hj).1
  have hsz : n0 + 3 ≤ w7.heap.size := Nat.le_trans h.size hA.size
  refine ⟨?_, ?_, by simp [h.len], ?_, fun p hp => ?_, h.blk, (h.upd.ext hA).trans' hG.upd (fun j hj hx => ?_), Nat.le_trans hsz hG.upd.size, h.pre, h.cnt, h.hn, h.bn, h.rb, h.bb, h.al⟩
  · refine (((h.sub.ext hA).reserve).upd hG.upd (fun j hj => ⟨.inl (.inr (.inr hj)), ?_⟩)).weaken (fun j hj => ?_)
    · have := hkid j hj; have := h.bn; omega
    · rcases hj with hj | hj | hj
      · exact .inl (.inl hj)
      · exact .inl (.inr (.inl hj))
      · rcases hG.where_ with e | e
        · rw [e] at hj; exact .inl (.inr (.inr hj))
        · rw [e] at hj
          injection hj with hj
          exact .inr (by omega)
  · have := hG.own
    rw [List.map_append]
    exact this
  · rw [List.map_append, h.map, List.map_singleton, hx, List.take_add_one]
    have : L[k]?.toList = [tg L k] := by unfold tg; rw [List.getD_eq_getElem?_getD, List.getElem?_eq_getElem hk]; rfl
    rw [this]
  · rw [List.mem_append, List.mem_singleton] at hp
    rcases hp with hp | hp
    · exact h.lt p hp
    · rw [hp]; exact hq
  · have := hkid j hx; have := h.hn; omega
end
/-- two rows of one's own of different kinds lie apart -/
theorem rows_ne {e e' sz sz' n n' b b' : Nat} {W : World} {u v : Value} {xs ys : List Value} (h : W.ownsRow b e sz u n xs) (h' : W.ownsRow b' e' sz' v n' ys) (hne : e ≠ e') : ∀ k, u.ownBlock = some k → v.ownBlock ≠ some k := by
  intro k hk hk'
  rcases h.2 with ⟨e1, _⟩ | ⟨g, cap, cur, rfl, hb, hg, _⟩
  · rw [e1] at hk; simp [Value.ownBlock] at hk
  · rcases h'.2 with ⟨e2, _⟩ | ⟨g', cap', cur', rfl, hb', hg', _⟩
    · rw [e2] at hk'; simp [Value.ownBlock] at hk'
    · simp only [Value.ownBlock, Option.some.injEq] at hk hk'
      subst hk
      subst hk'
      rw [hg] at hg'
      injection hg' with hg'
      injection hg' with _ h3
      exact hne h3
theorem own_lt {b e sz n : Nat} {W : World} {v : Value} {xs : List Value} (h : W.ownsRow b e sz v n xs) : ∀ k, v.ownBlock = some k → k < W.heap.size := by
  intro k hk
  rcases h.2 with ⟨e1, _⟩ | ⟨g, cap, cur, rfl, hb, hg, _⟩
  · rw [e1] at hk; simp [Value.ownBlock] at hk
  · simp only [Value.ownBlock, Option.some.injEq] at hk
    subst hk
    exact (Array.getElem?_eq_some_iff.1 hg).1
/-- the whole behind both appends -/
theorem AddJ.fin {R B T : Nat → Prop} {base n0 : Nat} {w wr wa wc wd wb we wf : World} {N : List Nt} {nm so : By} {L : List Tm} {lk kk kidv v7 v9 u : Value} {Nk : List Nt} {Bk : Nat → Prop} {ks : List Nat} {c : Nat} {us kz : List Value} {G : Nat → Prop}
    (h : AddJ R B T base n0 w wr N L lk kk kidv Nk Bk ks L.length c)
    (h1 : us.length = Nk.length) (h2 : kz.length = Nk.length) (h5 : ∀ i, i < Nk.length → TlR T wr (ng Nk i).1.kids (ug us i)) (h6 : ∀ i, i < Nk.length → SlR G wr 1 (ug kz i) (ng Nk i).2.length ((ng Nk i).2.map natV))
    (h7 : ∀ k, G k → base ≤ k ∧ k < wr.heap.size ∧ ¬ Bk k ∧ ¬ (R k ∨ (n0 ≤ k ∧ k < n0 + 3) ∨ kidv.ownBlock = some k))
    (hA1 : Ext wr wa) (hG1 : Grew base 25 3 lk (Nk.length + 1) (tCells (Nk.map (·.1)) us ++ [.string nm, .string so, u]) wa wc v7) (hs1 : Upd (fun j => j = n0) wc wd)
    (hA2 : Ext wd wb) (hG2 : Grew base 59 1 kk (Nk.length + 1) (kz ++ [kidv]) wb we v9) (hs2 : Upd (fun j => j = n0 ∨ j = n0 + 2) we wf) (hu : TlR T wr L u) :
    ∃ N' B', SubR R B' T base wf v7 v9 N' ∧ Upd B w wf ∧ (∀ j, B' j → B j ∨ w.heap.size ≤ j) ∧ N <+: N' ∧ N'.length = c + 1 ∧ (ng N' (N'.length - 1)).1 = .mk nm so L ∧ ∀ i, N.length ≤ i → i < N'.length → (ng N' i).1 ∈ sbts (.mk nm so L) := by
  have hV : ∀ k, kidv.ownBlock = some k → n0 + 3 ≤ k ∧ k < wr.heap.size := fun k hk => ⟨(h.own.lt k hk).1, own_lt h.own k hk⟩
  have hBn : ∀ k, Bk k → ¬ (n0 ≤ k ∧ k < n0 + 3) ∧ kidv.ownBlock ≠ some k := h.resB
  have hBs : ∀ k, Bk k → k < wr.heap.size := fun k hk => (h.sub.lt k hk).2.1
  have hn0 : n0 + 3 ≤ wr.heap.size := h.size
  have hU : Upd (fun k => Bk k ∨ k = n0 ∨ k = n0 + 2) wr wf := by
    have u1 : Upd (fun k => Bk k ∨ k = n0 ∨ k = n0 + 2) wr wc := ((Upd.refl _ wr).ext hA1).trans' hG1.upd (fun i hi hx => .inl (h.sub.blkL i hx))
    have u2 := (u1.trans' hs1 (fun i hi hx => .inr (.inl hx))).ext hA2
    have u3 := u2.trans' hG2.upd (fun i hi hx => .inl (h.sub.blkK i hx))
    exact u3.trans' hs2 (fun i hi hx => .inr hx)
  have hsz1 := hA1.size
  have hsz2 := hG1.upd.size
  have hsz3 := hs1.size
  have hsz4 := hA2.size
  have hsz5 := hG2.upd.size
  have hsz6 := hs2.size
  have hb7 : ∀ k, v7.ownBlock = some k → Bk k ∨ wr.heap.size ≤ k := fun k hk => by
    rcases hG1.where_ with e | e
    · rw [e] at hk; exact .inl (h.sub.blkL k hk)
    · rw [e] at hk; injection hk with hk; exact .inr (by omega)
  have hb9 : ∀ k, v9.ownBlock = some k → Bk k ∨ wr.heap.size ≤ k := fun k hk => by
    rcases hG2.where_ with e | e
    · rw [e] at hk; exact .inl (h.sub.blkK k hk)
    · rw [e] at hk; injection hk with hk; exact .inr (by omega)
  have hnb : ∀ k, Bk k ∨ wr.heap.size ≤ k → k ≠ n0 ∧ k ≠ n0 + 2 := fun k hk => by
    rcases hk with hk | hk
    · have := (hBn k hk).1; omega
    · omega
  obtain ⟨_, _, _, _, _, h4, _⟩ := h.sub.rows
  have hKb : wb.ownsRow base 25 3 v7 (Nk.length + 1) (tCells (Nk.map (·.1)) us ++ [.string nm, .string so, u]) := own_kept (own_kept hG1.own hs1 (fun k hk e => (hnb k (hb7 k hk)).1 e)) hA2 (fun _ _ x => x)
  have hne : ∀ k, v7.ownBlock = some k → kk.ownBlock ≠ some k := fun k hk hk' => by
    obtain ⟨us', kz', G', r1, r2, r3, r4, _⟩ := h.sub.rows
    have r4b : wb.ownsRow base 59 1 kk Nk.length kz' := by
      have hx : ∀ k, kk.ownBlock = some k → lk.ownBlock ≠ some k := fun k h1 h2 => rows_ne r3 r4 (by decide) k h2 h1
      exact own_kept (own_kept (own_kept (own_kept r4 hA1 (fun _ _ x => x)) hG1.upd (fun k h1 h2 => hx k h1 h2)) hs1 (fun k h1 e => (hnb k (.inl (h.sub.blkK k h1))).1 e)) hA2 (fun _ _ x => x)
    exact rows_ne hKb r4b (by decide) k hk hk'
  have hL : wf.ownsRow base 25 3 v7 (Nk.length + 1) (tCells (Nk.map (·.1)) us ++ [.string nm, .string so, u]) := own_kept (own_kept hKb hG2.upd (fun k hk e => hne k hk e)) hs2 (fun k hk e => by have := hnb k (hb7 k hk); rcases e with e | e <;> omega)
  have hK : wf.ownsRow base 59 1 v9 (Nk.length + 1) (kz ++ [kidv]) := own_kept hG2.own hs2 (fun k hk e => by have := hnb k (hb9 k hk); rcases e with e | e <;> omega)
  have hown : SlR (fun k => kidv.ownBlock = some k) wr 1 kidv ks.length (ks.map natV) := by have := SlR.of_own h.own; rw [← h.len] at this; exact this
  have hP := h.sub.push (t := .mk nm so L) (u := u) (v := kidv) (lv' := v7) (kv' := v9) (us := us) (ks := kz) (G := G) (V := fun k => kidv.ownBlock = some k) (R0 := R) (kn := ks) (w' := wf) h1 h2 h5 h6 h7
    (hU.mono (fun k hk hx => by
      rcases hx with hx | hx
      · exact .inl hx
      · refine .inr ⟨.inr (.inl (by omega)), by have := h.bn; omega, fun e => by have := hV k e; omega⟩)) hL hK
    (fun k hk => (hb7 k hk).imp id (fun e => ⟨e, own_lt hL k hk⟩)) (fun k hk => (hb9 k hk).imp id (fun e => ⟨e, own_lt hK k hk⟩)) (by have := h.bn; omega) hu hown
    (fun k hk => ⟨.inr (.inr hk), by have := (hV k hk).1; have := h.bn; omega, (hV k hk).2⟩) (fun k hk => ⟨.inl hk, by have := h.rb k hk; omega, fun e => by have := h.rb k hk; have := hV k e; omega⟩) h.lt (by rw [h.map, List.take_length]; rfl)
  refine ⟨_, _, hP, h.upd.trans' hU (fun i hi hx => ?_), fun j hj => ?_, h.pre.trans (List.prefix_append _ _), by rw [List.length_append, h.cnt]; rfl, ?_, fun i hi1 hi2 => ?_⟩
  · have := h.hn
    rcases hx with hx | hx
    · rcases h.blk i hx with h8 | h8
      · exact h8
      · omega
    · omega
  · have := h.hn
    rcases hj with hj | hj
    · rcases h.blk j hj with h8 | h8
      · exact .inl h8
      · exact .inr (by omega)
    · exact .inr (by omega)
  · rw [List.length_append, List.length_singleton, Nat.add_sub_cancel, ng_last]
  · rw [List.length_append, List.length_singleton] at hi2
    rw [sbts_eq]
    by_cases h3 : i < Nk.length
    · rw [ng_left _ h3]
      obtain ⟨x, hx, hx2⟩ := h.al i hi1 h3
      exact List.mem_cons_of_mem _ (List.mem_flatMap.2 ⟨x, hx, hx2⟩)
    · obtain rfl : i = Nk.length := by omega
      rw [ng_last]
      exact List.mem_cons_self ..
theorem infoI : (Tryz.prog.info? 3).map (fun i => (i.zero, i.size, i.bytes)) = some (some (.int .i64 0), 1, 8) := by kernel_rfl
theorem infoT : (Tryz.prog.info? 25).map (fun i => (i.zero, i.size, i.bytes)) = some (some (.agg #[.string ⟨#[]⟩, .string ⟨#[]⟩, .slice none 0 0]), 3, 56) := by kernel_rfl
theorem infoK : (Tryz.prog.info? 59).map (fun i => (i.zero, i.size, i.bytes)) = some (some (.slice none 0 0), 1, 24) := by kernel_rfl
theorem sizes_take (L : List Tm) (k : Nat) (h : k < L.length) : sizes (L.take (k + 1)) = sizes (L.take k) + (tg L k).size := by
  rw [tk_snoc L k h, sizes_append]
  simp [sizes]
theorem sizes_take_le (L : List Tm) (k : Nat) : sizes (L.take k) ≤ sizes L := by
  have : sizes L = sizes (L.take k) + sizes (L.drop k) := by rw [← sizes_append, List.take_append_drop]
  omega
set_option maxRecDepth 100000 in
set_option maxHeartbeats 2000000 in
theorem radd_x : ∀ (t : Tm) (N : List Nt) (lv kv v' : Value) (R B T : Nat → Prop) (base : Nat) (w : World), SubR R B T base w lv kv N → TmR T w t v' → base ≤ w.heap.size → (∀ j, R j → base ≤ j ∧ j < w.heap.size) → N.length + t.size ≤ 100000 →
    Calls Tryz.prog 78 #[.agg #[lv, kv], v'] w fun e w' => ∃ lv' kv' N' B', e = .returned (.agg #[lv', kv']) ∧ SubR R B' T base w' lv' kv' N' ∧ Upd B w w' ∧ (∀ j, B' j → B j ∨ w.heap.size ≤ j) ∧ N <+: N' ∧ N'.length = N.length + t.size ∧ (ng N' (N'.length - 1)).1 = t ∧ ∀ i, N.length ≤ i → i < N'.length → (ng N' i).1 ∈ sbts t := by
  refine Tm.ind (fun nm so L ih => ?_)
  intro N lv kv v' R B T base w hS hT hbase hR hsz
  obtain ⟨a, cap, rfl, hT⟩ := hT
  dsimp only [tV, Tm.name, Tm.sort, Tm.kids] at hT ⊢
  have HTL := Lib.hid hT
  have HIH := Lib.hid ih
  have HTb := Lib.hid hS.tb
  have hroom : N.length + sizes L + 1 ≤ 100000 := by rw [size_eq] at hsz; simp only [Tm.kids] at hsz; omega
  have HR0 := Lib.hid hroom
  have HSZ : Hid ((Tm.mk nm so L).size = sizes L + 1) := Lib.hid (size_eq _)
  have hlL : L.length ≤ 100000 := by have h1 := length_le_sizes L; omega
  clear ih hT hsz hroom
  have HZ := Lib.hid ((((Upd.refl (fun _ => False) w).alloc (.cells #[lv, kv] 118)).alloc (.cells #[.string nm, .string so, .slice a L.length cap] 25)).alloc (.cells #[.slice none 0 0, .slice none 0 0] 118))
  have HBX := Lib.hid (allocOld (allocOld (alloc0 w (.cells #[lv, kv] 118)) (.cells #[.string nm, .string so, .slice a L.length cap] 25)) (.cells #[.slice none 0 0, .slice none 0 0] 118))
  have HBT := Lib.hid (allocOld (alloc_at (w.alloc (.cells #[lv, kv] 118)) (.cells #[.string nm, .string so, .slice a L.length cap] 25) (n := w.heap.size + 1) (by simp)) (.cells #[.slice none 0 0, .slice none 0 0] 118))
  have HBR := Lib.hid (alloc_at ((w.alloc (.cells #[lv, kv] 118)).alloc (.cells #[.string nm, .string so, .slice a L.length cap] 25)) (.cells #[.slice none 0 0, .slice none 0 0] 118) (n := w.heap.size + 2) (by simp))
  have HJ : Hid (AddJ R B T base w.heap.size w (((w.alloc (.cells #[lv, kv] 118)).alloc (.cells #[.string nm, .string so, .slice a L.length cap] 25)).alloc (.cells #[.slice none 0 0, .slice none 0 0] 118)) N L lv kv (.slice none 0 0) N B [] 0 N.length) := Lib.hid ⟨((hS.reserve).ext HZ.out).weaken (fun j hj => by
      rcases hj with hj | hj | hj
      · exact .inl hj
      · exact .inr hj.1
      · simp [Value.ownBlock] at hj), ⟨rfl, .inl ⟨rfl, rfl⟩⟩, rfl, rfl, fun q hq => by simp at hq, fun j hj => .inl hj, HZ.out.mono (fun _ _ x => x.elim), by simp, List.prefix_refl _, rfl, rfl, hbase, hR, fun j hj => ⟨(hS.lt j hj).1, (hS.lt j hj).2.1⟩, fun i h1 h2 => absurd h2 (by omega)⟩
  obtain ⟨la, lc, ka, kc, hl1, hk1⟩ := hS.shape
  subst hl1; subst hk1
  have HB0 := Lib.hid hbase
  have HRR := Lib.hid hR
  clear hS hbase hR
  go_enter Tryz.func78, Tryz.ntmps78
  go_wp2_with fail
  go_loopg [5, 6] L.length (fun gk kidv iv wr => ∃ (k : Nat) (lk kk : Value) (Nk : List Nt) (Bk : Nat → Prop) (ks : List Nat), iv = .int .i64 (k : Int) ∧ gk = L.length - k ∧ k ≤ L.length ∧ Hid (AddJ R B T base w.heap.size w wr N L lk kk kidv Nk Bk ks k (N.length + sizes (L.take k))) ∧ Hid (wr.heap[w.heap.size]? = some (.cells #[lk, kk] 118 (0, 0))) ∧ Hid (wr.heap[w.heap.size + 1]? = some (.cells #[.string nm, .string so, .slice a L.length cap] 25 (0, 0))) ∧ Hid (wr.heap[w.heap.size + 2]? = some (.cells #[.slice none 0 0, .slice none 0 0] 118 (0, 0))))
  case atStart => exact ⟨0, _, _, N, B, [], rfl, rfl, Nat.zero_le _, HJ, HBX, HBT, HBR⟩
  case round =>
    clear HJ HBX HBT HBR
    obtain ⟨k, lk, kk, Nk, Bk, ks, rfl, rfl, hk, HJ, HBX, HBT, HBR⟩ := hrel
    obtain ⟨la2, lc2, ka2, kc2, hl1, hk1⟩ := HJ.out.sub.shape
    subst hl1; subst hk1
    obtain ⟨ia, ic, hi1⟩ := own_shape HJ.out.own
    subst hi1
    have t2 := cellRow HBT.out 2 (.slice a L.length cap) rfl
    have b0 := cellRow HBX.out 0 (.slice la2 Nk.length lc2) rfl
    have b1 := cellRow HBX.out 1 (.slice ka2 Nk.length kc2) rfl
    by_cases hlt : k < L.length
    · obtain ⟨g, off, rfl, _, hat⟩ := (HTL.out.kept HJ.out.upd (fun j hj hx => by have := HTb.out j hj; have := (HJ.out.bb j hx).1; omega)).at_ (by omega)
      obtain ⟨xa, xc, q0, q1, q2, hkid⟩ := hat k hlt
      have z0 : (0 : Int) ≤ (k : Int) := by omega
      have z1 : (k : Int) < (L.length : Int) := by omega
      have z2 : decide ((k : Int) < (L.length : Int)) = true := decide_eq_true z1
      have z2' : decide (k < L.length) = true := decide_eq_true hlt
      have hmem := tg_mem L k hlt
      have hst := sizes_take L k hlt
      have hsl := sizes_take_le L (k + 1)
      have hcn := HJ.out.cnt
      have HIX := Lib.hid (fun W (hW : Ext wr W) => HIH.out (tg L k) hmem Nk _ _ _ _ Bk T base W (HJ.out.sub.ext hW) (TmR.ext ⟨xa, xc, rfl, hkid⟩ hW) (by have := hW.size; have := HJ.out.size; have := HJ.out.bn; omega) (fun j hj => by
        rcases hj with hj | hj | hj
        · have := HJ.out.rb j hj; have := HJ.out.size; have := hW.size; omega
        · have := HJ.out.bn; have := HJ.out.size; have := hW.size; omega
        · have := HJ.out.own.lt j hj; have := HJ.out.bn; have := hW.size; omega) (by have := HR0.out; omega))
      dsimp only [tV] at HIX
      have HCN : Hid (N.length + sizes (L.take (k + 1)) = Nk.length + (tg L k).size) := Lib.hid (by omega)
      obtain ⟨x, hx⟩ : ∃ x, tg L k = x := ⟨_, rfl⟩
      have HX := Lib.hid hx
      have HXM : Hid (x ∈ L) := Lib.hid (hx ▸ hmem)
      rw [hx] at q0 q1 q2 HIX HCN
      rw [← Nat.add_assoc] at q1 q2
      clear hmem hst hsl hcn hx hat hkid
      go_wp2_with fail
      go_still_tail 6, (by kernel_rfl)
      change wpList _ _ _ _ _ wr.drew
      go_wp2_with fail
      refine (HIX.out wr.drew ((Upd.refl _ wr).drewN' 1)).mono ?_
      rintro e w5 ⟨lk', kk', N', B', rfl, hs5, hu5, hb5, hp5, hc5, hx5, ha5⟩
      obtain ⟨la5, lc5, ka5, kc5, hl5, hk5⟩ := hs5.shape
      subst hl5; subst hk5
      have hnb := HJ.out.resB
      have hBX5 := hu5.heap (show wr.drew.heap[w.heap.size]? = _ from HBX.out) (fun h => (hnb _ h).1 (by omega))
      have hBT5 := hu5.heap (show wr.drew.heap[w.heap.size + 1]? = _ from HBT.out) (fun h => (hnb _ h).1 (by omega))
      have hBR5 := hu5.heap (show wr.drew.heap[w.heap.size + 2]? = _ from HBR.out) (fun h => (hnb _ h).1 (by omega))
      have H5 := Lib.hid (And.intro hs5 (And.intro hu5 (And.intro hb5 (And.intro hp5 (And.intro hc5 (And.intro hx5 ha5))))))
      have HB5 := Lib.hid (And.intro hBX5 (And.intro hBT5 hBR5))
      have b5 := cellRow hBX5 0 (.slice la2 Nk.length lc2) rfl
      have b6 := cellRow hBX5 1 (.slice ka2 Nk.length kc2) rfl
      have fz := fun i => frozenRow hBX5 i
      clear hs5 hu5 hb5 hp5 hc5 hx5 ha5 hnb hBX5 hBT5 hBR5 q0 q1 q2 b0 b1 t2 HIX
      have hNp : 1 ≤ N'.length := by have h1 := H5.out.2.2.2.2.1; have := size_pos x; omega
      have hNb : N'.length ≤ 100000 := by have h1 := H5.out.2.2.2.2.1; have h2 := HCN.out; have h3 := HR0.out; have h4 := sizes_take_le L (k + 1); omega
      have HST : Hid (Upd (fun j => j = w.heap.size) w5 ((w5.setCell ⟨w.heap.size, 0, none⟩ (.slice la5 N'.length lc5)).setCell ⟨w.heap.size, 1, none⟩ (.slice ka5 N'.length kc5))) := Lib.hid (((Upd.refl (fun j => j = w.heap.size) w5).setCell (.inl rfl) _).setCell (.inl rfl) _)
      have HJ6 := Lib.hid (HJ.out.call ((Upd.refl _ wr).drewN' 1) H5.out.1 H5.out.2.1 H5.out.2.2.1 H5.out.2.2.2.1 H5.out.2.2.2.2.1 HST.out HXM.out H5.out.2.2.2.2.2.2)
      have HBX6 : Hid (((w5.setCell ⟨w.heap.size, 0, none⟩ (.slice la5 N'.length lc5)).setCell ⟨w.heap.size, 1, none⟩ (.slice ka5 N'.length kc5)).heap[w.heap.size]? = some (.cells #[(.slice la5 N'.length lc5), (.slice ka5 N'.length kc5)] 118 (0, 0))) := Lib.hid (setBlock (setBlock HB5.out.1 0 _) 1 _)
      have hw1 : IntKind.i64.wrap ((N'.length : Int) - 1) = ((N'.length - 1 : Nat) : Int) := by rw [IntWalk.i64_in _ (by omega)]; omega
      have hw2 : wrap64 ((N'.length : Int) - 1) = ((N'.length - 1 : Nat) : Int) := by rw [IntWalk.wrap64_in _ (by omega)]; omega
      have y0 := cellRow HBX6.out 0 (.slice la5 N'.length lc5) rfl
      obtain ⟨iI, hi, hz0, hz1, hz2⟩ := info_parts infoI
      have hcl := HJ.out.len
      have HSW := Lib.hid (show w.heap.size + 3 ≤ w5.heap.size from Nat.le_trans HJ.out.size H5.out.2.1.size)
      clear HTL HIH HJ HBX HBT HBR HTb
      go_wp2_with (at_builtin; refine wpList_append_at _ rfl (.tmp 21) (.tmp 26) 59 rfl (w.heap.size + 3) 3 iI (.int .i64 0) 1 8 Tryz.underlying59 hi hz0 hz1 hz2 rfl (by decide) _ _ _ rfl (HJ6.out.own.alloc _) _ 1 1 [natV (N'.length - 1)] rfl rfl ?c1 ?c2 ?c3 ?c4 ?c5 ?_)
      case c1 =>
        intro l u hl
        match l, hl with
        | 0, hl => simp only [List.getElem?_cons_zero, Option.some.injEq] at hl; subst hl; simp only [Addr.add]; exact cellRow (alloc_at _ _ (by simp [World.setCell])) 0 _ rfl
      case c2 => intro u hu; simp at hu; subst hu; rfl
      case c3 => unfold maxLen; omega
      case c4 => omega
      case c5 => have h1 := HSW.out; simp; omega
      intro v8 w8 hG
      have HJ8 := Lib.hid (HJ6.out.grow ((Upd.refl (fun _ => False) _).alloc _) hG (by have := hNp; omega) hlt (by rw [H5.out.2.2.2.2.2.1, HX.out]))
      have hkn : ∀ j, j < w.heap.size + 3 → ¬ ((Value.slice ia k ic).ownBlock = some j) := fun j hj e => by have := (HJ6.out.own.lt j e).1; omega
      have HBX8 := Lib.hid (hG.upd.heap (allocOld HBX6.out _) (hkn _ (by omega)))
      have HBT8 := Lib.hid (hG.upd.heap (allocOld (HST.out.heap HB5.out.2.1 (by omega)) _) (hkn _ (by omega)))
      have HBR8 := Lib.hid (hG.upd.heap (allocOld (HST.out.heap HB5.out.2.2 (by omega)) _) (hkn _ (by omega)))
      obtain ⟨i8, c8, rfl⟩ := own_shape hG.own
      clear hG hkn y0 b5 b6 fz HST HBX6 HB5
      go_wp2_with fail
      go_roundg (L.length - (k + 1))
      case measure => omega
      case rel => exact ⟨k + 1, _, _, N', _, _, by go_num, rfl, by omega, Lib.hid (by rw [HCN.out]; exact HJ8.out), HBX8, HBT8, HBR8⟩
    · obtain rfl : k = L.length := by omega
      have z2 : decide ((L.length : Int) < (L.length : Int)) = false := decide_eq_false (by omega)
      have t0 := cellRow HBT.out 0 (.string nm) rfl
      have t1 := cellRow HBT.out 1 (.string so) rfl
      have fz := fun i => frozenRow HBX.out i
      have hnl : Nk.length ≤ 100000 := by have h1 := HJ.out.cnt; have h2 := HR0.out; have h3 := sizes_take_le L L.length; omega
      have hszr := HJ.out.size
      have hbn := HJ.out.bn
      obtain ⟨us, kz, G, h1, h2, h3, h4, h5, h6, h7⟩ := HJ.out.sub.rows
      have HROW := Lib.hid (And.intro h1 (And.intro h2 (And.intro h5 (And.intro h6 h7))))
      have H3 := Lib.hid h3
      have H4 := Lib.hid h4
      clear h1 h2 h3 h4 h5 h6 h7
      obtain ⟨iT, hi, hz0, hz1, hz2⟩ := info_parts infoT
      go_wp2_with (at_builtin; refine wpList_append_at _ rfl (.tmp 29) (.tmp 31) 23 rfl base 25 iT (.agg #[.string ⟨#[]⟩, .string ⟨#[]⟩, .slice none 0 0]) 3 56 Tryz.underlying23 hi hz0 hz1 hz2 rfl (by decide) _ _ _ rfl (H3.out.alloc _) _ 1 1 [.string nm, .string so, .slice a L.length cap] rfl rfl ?d1 ?d2 ?d3 ?d4 ?d5 ?_)
      case d1 =>
        intro l u hl
        match l, hl with
        | 0, hl => simp at hl; subst hl; simp [Addr.add]
        | 1, hl => simp at hl; subst hl; simp [Addr.add]
        | 2, hl => simp at hl; subst hl; simp [Addr.add]
      case d2 => intro u hu; simp at hu; rcases hu with h | h | h <;> (subst h; rfl)
      case d3 => unfold maxLen; omega
      case d4 => omega
      case d5 => simp; omega
      intro v7 w7 hG1
      have hlkb : ∀ j, j < w.heap.size + 3 → w.heap.size ≤ j → ¬ ((Value.slice la2 Nk.length lc2).ownBlock = some j) := fun j hj hj2 e => (HJ.out.resB j (HJ.out.sub.blkL j e)).1 ⟨hj2, hj⟩
      have hkkb : ∀ j, j < w.heap.size + 3 → w.heap.size ≤ j → ¬ ((Value.slice ka2 Nk.length kc2).ownBlock = some j) := fun j hj hj2 e => (HJ.out.resB j (HJ.out.sub.blkK j e)).1 ⟨hj2, hj⟩
      have HA1 := Lib.hid ((Upd.refl (fun _ => False) wr).alloc (.cells #[.string nm, .string so, .slice a L.length cap] 25))
      have HG1 := Lib.hid hG1
      have HBX7 := Lib.hid (hG1.upd.heap (allocOld HBX.out _) (hlkb _ (by omega) (by omega)))
      have HBR7 := Lib.hid (hG1.upd.heap (allocOld HBR.out _) (hlkb _ (by omega) (by omega)))
      obtain ⟨a7, c7, rfl⟩ := own_shape hG1.own
      have HS1 := Lib.hid ((Upd.refl (fun j => j = w.heap.size) w7).setCell (p := ⟨w.heap.size, 0, none⟩) (.inl rfl) (.slice a7 (Nk.length + 1) c7))
      have HK7 := Lib.hid (own_kept (own_kept (own_kept H4.out HA1.out (fun _ _ x => x)) hG1.upd (fun l hl e => rows_ne H3.out H4.out (by decide) l e hl)) HS1.out (fun l hl e => hkkb l (by omega) (by omega) hl))
      have HBX7' := Lib.hid (setBlock HBX7.out 0 (.slice a7 (Nk.length + 1) c7))
      have HBR7' := Lib.hid (HS1.out.heap HBR7.out (by omega))
      have hs7 : w.heap.size + 3 ≤ w7.heap.size := by have h1 := HA1.out.size; have h2 := hG1.upd.size; omega
      have d0 := cellRow HBX7.out 0 (.slice la2 Nk.length lc2) rfl
      have d1 := cellRow HBX7.out 1 (.slice ka2 Nk.length kc2) rfl
      have fz7 := fun i => frozenRow HBX7.out i
      clear hG1 t0 t1 t2 b0 b1 fz hi hz0 hz1 hz2 HBX HBT HBR
      obtain ⟨iK, hi, hz0, hz1, hz2⟩ := info_parts infoK
      go_wp2_with (at_builtin; refine wpList_append_at _ rfl (.tmp 35) (.tmp 37) 116 rfl base 59 iK (.slice none 0 0) 1 24 Tryz.underlying116 hi hz0 hz1 hz2 rfl (by decide) _ _ _ rfl (HK7.out.alloc _) _ 1 1 [.slice ia L.length ic] rfl rfl ?e1 ?e2 ?e3 ?e4 ?e5 ?_)
      case e1 =>
        intro l u hl
        match l, hl with
        | 0, hl => simp only [List.getElem?_cons_zero, Option.some.injEq] at hl; subst hl; simp only [Addr.add]; exact cellRow (alloc_at _ _ (by simp [World.setCell])) 0 _ rfl
      case e2 => intro u hu; simp at hu; subst hu; rfl
      case e3 => unfold maxLen; omega
      case e4 => omega
      case e5 => have h1 := HS1.out.size; simp; omega
      intro v9 w9 hG2
      have HA2 := Lib.hid ((Upd.refl (fun _ => False) (w7.setCell ⟨w.heap.size, 0, none⟩ (.slice a7 (Nk.length + 1) c7))).alloc (.cells #[.slice ia L.length ic] 59))
      have HG2 := Lib.hid hG2
      have HBX9 := Lib.hid (hG2.upd.heap (allocOld HBX7'.out _) (hkkb _ (by omega) (by omega)))
      have HBR9 := Lib.hid (hG2.upd.heap (allocOld HBR7'.out _) (hkkb _ (by omega) (by omega)))
      obtain ⟨a9, c9, rfl⟩ := own_shape hG2.own
      have HS2 := Lib.hid ((((Upd.refl (fun j => j = w.heap.size ∨ j = w.heap.size + 2) w9).setCell (p := ⟨w.heap.size, 1, none⟩) (.inl (.inl rfl)) (.slice a9 (Nk.length + 1) c9)).setCell (p := ⟨w.heap.size + 2, 0, none⟩) (.inl (.inr rfl)) (.slice a7 (Nk.length + 1) c7)).setCell (p := ⟨w.heap.size + 2, 1, none⟩) (.inl (.inr rfl)) (.slice a9 (Nk.length + 1) c9))
      have f0 := cellRow HBX9.out 0 (.slice a7 (Nk.length + 1) c7) rfl
      have f1 := cellRow HBX9.out 1 (.slice ka2 Nk.length kc2) rfl
      have g0 := cellRow HBR9.out 0 (.slice none 0 0) rfl
      have g1 := cellRow HBR9.out 1 (.slice none 0 0) rfl
      have fz9 := fun i => frozenRow HBX9.out i
      have gz9 := fun i => frozenRow HBR9.out i
      have HTR := Lib.hid (HTL.out.kept HJ.out.upd (fun j hj hx => by have := HTb.out j hj; have := (HJ.out.bb j hx).1; omega))
      have HFIN := Lib.hid (HJ.out.fin HROW.out.1 HROW.out.2.1 HROW.out.2.2.1 HROW.out.2.2.2.1 HROW.out.2.2.2.2 HA1.out HG1.out HS1.out HA2.out HG2.out HS2.out HTR.out)
      clear hG2 d0 d1 fz7 HBX7 HBR7 HBX7' HBR7' HROW H3 H4 HK7 hi hz0 hz1 hz2
      go_wp2_with fail
      have r0 : ((((w9.setCell ⟨w.heap.size, 1, none⟩ (.slice a9 (Nk.length + 1) c9)).setCell ⟨w.heap.size + 2, 0, none⟩ (.slice a7 (Nk.length + 1) c7)).setCell ⟨w.heap.size + 2, 1, none⟩ (.slice a9 (Nk.length + 1) c9))).heap[w.heap.size + 2]? = some (.cells #[.slice a7 (Nk.length + 1) c7, .slice a9 (Nk.length + 1) c9] 118 (0, 0)) := by
        have h0 : (w9.setCell ⟨w.heap.size, 1, none⟩ (.slice a9 (Nk.length + 1) c9)).heap[w.heap.size + 2]? = some (.cells #[.slice none 0 0, .slice none 0 0] 118 (0, 0)) := by
          rw [Below.heap_setCell _ _ _ _ (by simp)]; exact HBR9.out
        exact setBlock (setBlock h0 0 _) 1 _
      have e0 := cellRow r0 0 _ rfl
      have e1 := cellRow r0 1 _ rfl
      obtain ⟨N', B', k1, k2, k3, k4, k5, k6, k7⟩ := HFIN.out
      refine bodyPost_ret (v := .agg #[.slice a7 (Nk.length + 1) c7, .slice a9 (Nk.length + 1) c9]) (by simp [results, Tryz.results78, go_sem, e0, e1]) rfl ⟨_, _, N', B', rfl, k1, k2, k3, k4, ?_, k6, k7⟩
      rw [k5, List.take_length, HSZ.out]
      omega

end Go.Proofs.YtiimccogojkldaaGreatDoor
