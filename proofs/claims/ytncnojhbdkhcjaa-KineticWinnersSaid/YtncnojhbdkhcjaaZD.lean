/- The texts K10 K11 K12 K13 K14 K15 K16 KP2 KP3 KH1, one behind the other. -/
import Derived.Test.YtncnojhbdkhcjaaZC
import Derived.Sort.OwnSortedInts
import Derived.BigQuiet
import Derived.Test.YtncnojhbdkhcjaaZA
/- The sort of order. -/
namespace Go.Proofs.Ytncnojhbdkhcjaa
open Go.RowKit Go.Hw
set_option linter.unusedVariables false
set_option linter.unusedSimpArgs false

open Go.Sort Go.Lib Go.Shelf
def iCells (L : List Nat) : List Value := (L.map fun i : Nat => (i : Int)).map (Value.int .i64)
theorem iCells_len (L : List Nat) : (iCells L).length = L.length := by simp [iCells]
theorem iCells_at (L : List Nat) (i : Nat) (h : i < L.length) : (iCells L)[i]? = some (.int .i64 (L.getD i 0 : Nat)) := by
  simp [iCells, h, List.getD_eq_getElem?_getD, List.getElem?_eq_getElem h]
theorem iCells_snoc (L : List Nat) (x : Nat) : iCells (L ++ [x]) = iCells L ++ [.int .i64 (x : Int)] := by simp [iCells]
theorem putRow_map {α : Type} [Inhabited α] (enc : α → Value) (f : α → Int) (he : ∀ x, enc x = .int .i64 (f x)) (w : World) (b o : Nat) (d : Array α) : putRow enc w b o d = putRow (Value.int .i64) w b o (d.map f) := by
  unfold putRow
  congr 1
  funext c
  unfold putCells
  congr 1
  funext k x
  have hs : (d.map f).size = d.size := by simp
  rw [hs]
  split
  · rename_i h
    have h2 : k - o < d.size := by omega
    rw [getElem!_pos d (k - o) h2, getElem!_pos (d.map f) (k - o) (by simpa using h2), Array.getElem_map, he]
  · rfl
theorem holds_map {α : Type} [Inhabited α] (enc : α → Value) (f : α → Int) (he : ∀ x, enc x = .int .i64 (f x)) (w : World) (b o : Nat) (d : Array α) (h : Holds (Value.int .i64) w b o (d.map f)) : Holds enc w b o d := by
  intro j hj
  have := h j (by simpa using hj)
  rw [getElem!_pos (d.map f) j (show j < (d.map f).size by simpa using hj), Array.getElem_map] at this
  rw [getElem!_pos d j hj, he]
  exact this

theorem sortF_x (l : List Mo) (n d : Int) (base g cap bl bt : Nat) (v : Value) (S : Nat → Prop) (w : World) (hl : 0 < l.length) (hl2 : l.length ≤ 100000) (hm : mB l = true) (hv : vfB n d = true)
    (hO : w.ownsRow base 3 1 (.slice (some ⟨g, 0, none⟩) l.length cap) l.length (iCells (List.range l.length))) (hR : MoR S w v l) (hS : ∀ k, S k → k ≠ g) (hbl : bl ≠ g) (hbt : bt ≠ g)
    (c0 : w.cell? ⟨bl, 0, none⟩ = some v) (c1 : w.cell? ⟨bt, 0, none⟩ = some (.int .i64 n)) (c2 : w.cell? ⟨bt, 1, none⟩ = some (.int .i64 d)) :
    Calls Try.prog 70 #[.slice (some ⟨g, 0, none⟩) l.length cap, .func (.func 71) #[] #[.pointer (some ⟨bl, 0, none⟩), .pointer (some ⟨bt, 0, none⟩)]] w fun e w' =>
      e = .returned (.tuple #[]) ∧ w'.ownsRow base 3 1 (.slice (some ⟨g, 0, none⟩) l.length cap) l.length (iCells (ordF l n d)) ∧ Upd (fun k => k = g) w w' := by
  obtain ⟨hlen, hrest⟩ := hO
  rcases hrest with ⟨e0, e1⟩ | ⟨g', cap', cur, e0, hbg, hb, hc1, hc2, hc3, htk⟩
  · cases e0
  · injection e0 with e1 e2 e3
    injection e1 with e1
    injection e1 with e1
    subst e1; subst e3
    haveI : Inhabited (Fin l.length) := ⟨⟨0, hl⟩⟩
    let enc : Fin l.length → Value := fun x => .int .i64 ((x.1 : Nat) : Int)
    let f : Fin l.length → Int := fun x => ((x.1 : Nat) : Int)
    have he : ∀ x, enc x = .int .i64 (f x) := fun _ => rfl
    have eg : ∀ args w, (callFunc 71 args).run Try.prog w = .ok (.enter 71 args) w := enters_of Try.func71 (by kernel_rfl) rfl
    have hdm : ((List.finRange l.length).toArray.map f) = ((List.range l.length).map fun i : Nat => (i : Int)).toArray := by
      apply Array.ext
      · simp
      · intro i h1 h2; simp [f]
    have hsz : (List.finRange l.length).toArray.size = l.length := by simp
    have hu : ∀ (m : Nat) (os : Array Obj) (dk : Array (Fin l.length)), Upd (fun k => k = g) w (sortWorld enc w g 0 m dk os) := by
      intro m os dk
      unfold sortWorld
      rw [putRow_map enc f he]
      exact (Upd.of_grown (grownBy_sortedI _)).mono (fun k _ e => by injection e)
    have hcmp : CmpLays1 Try.prog 71 #[.pointer (some ⟨bl, 0, none⟩), .pointer (some ⟨bt, 0, none⟩)] enc (cfF l n d) g 0 (List.finRange l.length).toArray.size w := by
      intro m os dk hdk x y
      have hU := hu m os dk
      obtain ⟨a, c, rfl⟩ := hR.shape
      obtain ⟨g2, off, rfl⟩ := hR.at_ hl
      refine (cl_x bl bt g2 off c l n d x.1 y.1 S _ x.2 y.2 hm hv (hU.cell c0 hbl) (hU.cell c1 hbt) (hU.cell c2 hbt) (hR.kept hU hS)).mono ?_
      rintro e w' ⟨h1, h2⟩
      exact ⟨h1, h2.grow⟩
    have hH : Holds enc w g 0 (List.finRange l.length).toArray := by
      refine holds_map enc f he w g 0 _ ?_
      rw [hdm]
      refine holds_of_blockI hb ?_
      rw [List.length_map, List.length_range, ← Nat.mul_one l.length, htk]
      simp [iCells]
    have hcon := Try.slices_SortFunc_total enc (fun _ => rfl) (cfF l n d) (cfF_swo l n d) 71 #[.pointer (some ⟨bl, 0, none⟩), .pointer (some ⟨bt, 0, none⟩)] g 0 cap (List.finRange l.length).toArray w eg hcmp hH (Array.getElem?_eq_some_iff.1 hb).1 (by rw [hsz]; omega) (cfF_tot l n d)
    rw [hsz] at hcon
    refine hcon.mono ?_
    rintro e w' ⟨h1, m, os, rfl⟩
    refine ⟨h1, ?_, hu m os _⟩
    have ho := ownsRow_sortedI (w := w) (n := m) (os := os) (ss := (ordF l n d).map fun i : Nat => (i : Int)) (ts := (ordF l n d).map fun i : Nat => (i : Int)) rfl hbg hb (by rw [List.length_map, ordF_len]; exact hc1) hc2 hc3
    rw [List.length_map, ordF_len] at ho
    unfold sortWorld
    rw [putRow_map enc f he]
    have e9 : ((List.finRange l.length).toArray.toList.mergeSort fun x y => !(ltOf (cfF l n d)) y x).toArray.map f = ((ordF l n d).map fun i : Nat => (i : Int)).toArray := by
      rw [← ordF_fin l n d]
      simp [f, Function.comp_def]
    rw [e9]
    exact ho

end Go.Proofs.Ytncnojhbdkhcjaa

/- order. -/
namespace Go.Proofs.Ytncnojhbdkhcjaa
open Go.RowKit Go.Hw
set_option linter.unusedVariables false
set_option linter.unusedSimpArgs false
theorem info3 : (Try.prog.info? 3).map (fun i => (i.zero, i.size, i.bytes)) = some (some (.int .i64 0), 1, 8) := by kernel_rfl
theorem own_base {w : World} {b b' : Nat} {e : TypeId} {size : Nat} {v : Value} {n : Nat} {xs : List Value} (h : w.ownsRow b e size v n xs) (hb : b' ≤ b) : w.ownsRow b' e size v n xs := by
  obtain ⟨h1, h2 | ⟨g, cap, cur, h3, h4, h5⟩⟩ := h
  · exact ⟨h1, .inl h2⟩
  · exact ⟨h1, .inr ⟨g, cap, cur, h3, Nat.le_trans hb h4, h5⟩⟩
theorem range_snoc (j : Nat) : iCells (List.range (j + 1)) = iCells (List.range j) ++ [.int .i64 (j : Int)] := by rw [List.range_succ, iCells_snoc]
set_option maxRecDepth 100000 in
set_option maxHeartbeats 2000000 in
theorem order_x (l : List Mo) (n d : Int) (S : Nat → Prop) (v : Value) (w : World) (hl2 : l.length ≤ 100000) (hm : mB l = true) (hv : vfB n d = true) (hR : MoR S w v l) (hS : ∀ k, S k → k < w.heap.size) :
    Calls Try.prog 52 #[v, .agg #[.int .i64 n, .int .i64 d]] w fun e w' => ∃ r, e = .returned r ∧ w'.ownsRow w.heap.size 3 1 r l.length (iCells (ordF l n d)) ∧ Ext w w' := by
  obtain ⟨i0, hi, hz0, hz1, hz2⟩ := info_parts info3
  obtain ⟨a, cap, rfl⟩ := hR.shape
  have HZ := Lib.hid (((Upd.refl (fun _ => False) w).alloc (.cells #[.slice a l.length cap] 26)).alloc (.cells #[.int .i64 n, .int .i64 d] 25))
  have hb0 := allocOld (alloc0 w (.cells #[.slice a l.length cap] 26)) (.cells #[.int .i64 n, .int .i64 d] 25)
  have hb1 := alloc_at (w.alloc (.cells #[.slice a l.length cap] 26)) (.cells #[.int .i64 n, .int .i64 d] 25) (n := w.heap.size + 1) (by simp)
  have HL : Hid (((w.alloc (.cells #[.slice a l.length cap] 26)).alloc (.cells #[.int .i64 n, .int .i64 d] 25)).heap.size = w.heap.size + 2) := Lib.hid (by simp)
  have HX : Hid (∀ W, Ext ((w.alloc (.cells #[.slice a l.length cap] 26)).alloc (.cells #[.int .i64 n, .int .i64 d] 25)) W → W.cell? ⟨w.heap.size, 0, none⟩ = some (.slice a l.length cap) ∧ W.cell? ⟨w.heap.size + 1, 0, none⟩ = some (.int .i64 n) ∧ W.cell? ⟨w.heap.size + 1, 1, none⟩ = some (.int .i64 d)) := Lib.hid (fun W hW => ⟨cellRow (hW.heap hb0 (fun h => h)) 0 _ rfl, cellRow (hW.heap hb1 (fun h => h)) 0 _ rfl, cellRow (hW.heap hb1 (fun h => h)) 1 _ rfl⟩)
  clear hb0 hb1
  have hle1 : w.heap.size ≤ w.heap.size + 1 := by omega
  obtain ⟨k00, k10, k11⟩ := HX.out _ (Upd.refl _ _)
  have HRb := Lib.hid (hR.ext HZ.out)
  have HSF := Lib.hid (fun W g cap' (hl : 0 < l.length) hO hR' hS' h1 h2 c0 c1 c2 => sortF_x l n d (w.heap.size + 2) g cap' w.heap.size (w.heap.size + 1) (.slice a l.length cap) S W hl hl2 hm hv hO hR' hS' h1 h2 c0 c1 c2)
  have HS := Lib.hid hS
  have HNIL := Lib.hid (show l.length = 0 → iCells (ordF l n d) = [] from fun h => List.eq_nil_of_length_eq_zero (by rw [iCells_len, ordF_len, h]))
  generalize hQ : iCells (ordF l n d) = Q at *
  generalize hLL : l.length = L at *
  clear hR hS hm hv hQ hi hz0 hz1 hz2 i0
  go_enter Try.func52, Try.ntmps52
  go_wp2_with fail
  generalize ((w.alloc (.cells #[.slice a L cap] 26)).alloc (.cells #[.int .i64 n, .int .i64 d] 25)) = wb at *
  go_loopg [5, 9] L (fun gk bv i wr => ∃ j : Nat, i = .int .i64 j ∧ gk = L - j ∧ j ≤ L ∧ Hid (Ext wb wr) ∧ Hid (wr.ownsRow (w.heap.size + 2) 3 1 bv j (iCells (List.range j))))
  case atStart => exact ⟨0, rfl, rfl, Nat.zero_le _, Lib.hid (Upd.refl _ _), Lib.hid (World.ownsRow_nil _ _ _ _)⟩
  case round =>
    obtain ⟨i0, hi, hz0, hz1, hz2⟩ := info_parts info3
    obtain ⟨j, rfl, rfl, hj, HE, HO⟩ := hrel
    obtain ⟨a4, c4, hv4⟩ := own_shape HO.out
    subst hv4
    have hsz := HE.out.size
    have hL := HL.out
    by_cases hlt : j < L
    · have z1 : (j : Int) < (L : Int) := by omega
      have HN := Lib.hid (range_snoc j)
      go_wp2_with (at_builtin; refine wpList_append_at _ rfl (.tmp 12) (.tmp 14) 33 rfl (w.heap.size + 2) 3 i0 (.int .i64 0) 1 8 Try.underlying33 hi hz0 hz1 hz2 rfl (by decide) _ _ _ rfl (HO.out.alloc _) ⟨wr.heap.size, 0, none⟩ 1 1 [.int .i64 (j : Int)] rfl rfl ?c1 ?c2 ?c3 ?c4 ?c5 ?_)
      case c1 =>
        intro j u hj
        match j, hj with
        | 0, hj => simp at hj; subst hj; simp [Addr.add]
      case c2 => intro u hu; simp at hu; subst hu; rfl
      case c3 => unfold maxLen; omega
      case c4 => omega
      case c5 => simp; omega
      intro v5 w5 hG
      have HO5 : Hid (w5.ownsRow (w.heap.size + 2) 3 1 v5 (j + 1) (iCells (List.range (j + 1)))) := Lib.hid (by rw [HN.out]; exact hG.own)
      have HE5 : Hid (Ext wb w5) := Lib.hid (upd_grown_new (HE.out.alloc _) hG.grown (fun k e => by have := (HO.out.lt k e).1; omega))
      obtain ⟨a5, c5, hv5⟩ := own_shape HO5.out
      subst hv5
      clear hG
      go_wp2_with fail
      go_roundg (L - (j + 1))
      case measure => omega
      case rel => exact ⟨j + 1, by go_num, rfl, by omega, HE5, HO5⟩
    · obtain rfl : j = L := by omega
      rcases Nat.eq_zero_or_pos j with h0 | h0
      · subst h0
        have hQ := HNIL.out rfl
        have HN0 : Hid (∀ (p : Option Addr) (c : Nat) (fv : Value) W, Calls Try.prog 70 #[.slice p 0 c, fv] W fun e w' => e = .returned (.tuple #[]) ∧ w' = W) := Lib.hid (fun p c fv W => Try.slices_SortFunc_none (α := Nat) p c fv W)
        have HF := Lib.hid (HZ.out.ext HE.out)
        subst hQ
        go_wp2_with fail
        refine (HN0.out _ _ _ _).mono ?_
        rintro e w6 ⟨rfl, rfl⟩
        go_wp2_with fail
        go_ret
        exact ⟨_, rfl, own_base HO.out (by omega), HF.out⟩
      · obtain ⟨g, c5, hv5⟩ := own_some HO.out h0
        injection hv5 with e1 e2 e3
        subst e1; subst e3
        obtain ⟨g', c', hv', hbg, hgl, _⟩ := ownAt HO.out h0
        injection hv' with e1 e2 e3
        injection e1 with e1
        injection e1 with e1
        subst e1
        clear e2 e3
        have hc := HX.out _ HE.out
        have hcon := HSF.out wr g c4 h0 HO.out (HRb.out.ext HE.out) (fun k hk e => by have := HS.out k hk; omega) (by omega) (by omega) hc.1 hc.2.1 hc.2.2
        have HC := Lib.hid hcon
        have HF := Lib.hid (HZ.out.ext HE.out)
        clear hcon hc
        go_wp2_with fail
        refine HC.out.mono ?_
        rintro e w6 ⟨rfl, hO6, hU6⟩
        have HO6 := Lib.hid hO6
        have HU6 := Lib.hid (HF.out.trans' hU6 (fun i hi e => by omega))
        clear hO6 hU6
        go_wp2_with fail
        go_ret
        have hfin := own_base HO6.out (Nat.le_add_right w.heap.size 2)
        have hfu := HU6.out
        clear HSF HX HC HRb HS HZ HL HNIL
        exact ⟨_, rfl, hfin, hfu⟩

end Go.Proofs.Ytncnojhbdkhcjaa

/- Order. -/
namespace Go.Proofs.Ytncnojhbdkhcjaa
open Go.RowKit Go.Hw
set_option linter.unusedVariables false
set_option linter.unusedSimpArgs false
set_option maxRecDepth 100000 in
set_option maxHeartbeats 2000000 in
theorem Order_bad1 (l : List Mo) (n d : Int) (S : Nat → Prop) (v : Value) (w : World) (n0 : -9223372036854775808 ≤ n) (n1 : n ≤ 9223372036854775807) (d0 : -9223372036854775808 ≤ d) (d1 : d ≤ 9223372036854775807) (hl2 : l.length ≤ 4611686018427387904) (hR : MoR S w v l) (hS : ∀ k, S k → k < w.heap.size) (hm : mB l = false) :
    Calls Try.prog 13 #[v, .agg #[.int .i64 n, .int .i64 d]] w fun e w' => ∃ r, e = .returned (.tuple #[r, .int .i64 1]) ∧ w'.ownsRow w.heap.size 3 1 r 0 [] ∧ Ext w w' := by
  obtain ⟨a, cap, rfl⟩ := hR.shape
  have HRb : Hid (∀ W, Ext w W → MoR S W (.slice a l.length cap) l) := Lib.hid (fun W h => hR.ext h)
  have HCF : Hid (∀ W, Ext w W → Calls Try.prog 51 #[.slice a l.length cap, .func (.func 46) #[] #[]] W fun e w' => e = .returned (.bool (!mB l)) ∧ Ext W w') := Lib.hid (fun W h => conf_x l S _ W (hR.ext h) hl2)
  have HTT : Hid (∀ W, Calls Try.prog 47 #[.agg #[.int .i64 n, .int .i64 d]] W fun e w' => e = .returned (.bool (timeB n d)) ∧ Ext W w') := Lib.hid (fun W => time_x n d W n0 n1 d0 d1)
  rw [hm] at HCF
  clear hR
  have HZ := Lib.hid ((Upd.refl (fun _ => False) w).alloc (.cells #[.int .i64 n, .int .i64 d] 25))
  have hb0 := alloc0 w (.cells #[.int .i64 n, .int .i64 d] 25)
  have HL : Hid ((w.alloc (.cells #[.int .i64 n, .int .i64 d] 25)).heap.size = w.heap.size + 1) := Lib.hid (by simp)
  have HX : Hid (∀ W, Ext (w.alloc (.cells #[.int .i64 n, .int .i64 d] 25)) W → W.cell? ⟨w.heap.size, 0, none⟩ = some (.int .i64 n) ∧ W.cell? ⟨w.heap.size, 1, none⟩ = some (.int .i64 d)) := Lib.hid (fun W hW => ⟨cellRow (hW.heap hb0 (fun h => h)) 0 _ rfl, cellRow (hW.heap hb0 (fun h => h)) 1 _ rfl⟩)
  clear hb0
  obtain ⟨k00, k01⟩ := HX.out _ (Upd.refl _ _)
  go_enter Try.func13, Try.ntmps13
  go_wp2_with fail
  refine (HCF.out _ HZ.out).mono ?_
  rintro e w4 ⟨rfl, hw4⟩
  have H4 := Lib.hid (hw4)
  clear hw4
  clear k00 k01
  obtain ⟨k00, k01⟩ := HX.out _ H4.out
  go_wp2_with fail
  go_ret2
  exact ⟨_, rfl, World.ownsRow_nil _ _ _ _, HZ.out.ext H4.out⟩
set_option maxRecDepth 100000 in
set_option maxHeartbeats 2000000 in
theorem Order_bad2 (l : List Mo) (n d : Int) (S : Nat → Prop) (v : Value) (w : World) (n0 : -9223372036854775808 ≤ n) (n1 : n ≤ 9223372036854775807) (d0 : -9223372036854775808 ≤ d) (d1 : d ≤ 9223372036854775807) (hl2 : l.length ≤ 4611686018427387904) (hR : MoR S w v l) (hS : ∀ k, S k → k < w.heap.size) (hm : mB l = true) (ht : timeB n d = false) :
    Calls Try.prog 13 #[v, .agg #[.int .i64 n, .int .i64 d]] w fun e w' => ∃ r, e = .returned (.tuple #[r, .int .i64 1]) ∧ w'.ownsRow w.heap.size 3 1 r 0 [] ∧ Ext w w' := by
  obtain ⟨a, cap, rfl⟩ := hR.shape
  have HRb : Hid (∀ W, Ext w W → MoR S W (.slice a l.length cap) l) := Lib.hid (fun W h => hR.ext h)
  have HCF : Hid (∀ W, Ext w W → Calls Try.prog 51 #[.slice a l.length cap, .func (.func 46) #[] #[]] W fun e w' => e = .returned (.bool (!mB l)) ∧ Ext W w') := Lib.hid (fun W h => conf_x l S _ W (hR.ext h) hl2)
  have HTT : Hid (∀ W, Calls Try.prog 47 #[.agg #[.int .i64 n, .int .i64 d]] W fun e w' => e = .returned (.bool (timeB n d)) ∧ Ext W w') := Lib.hid (fun W => time_x n d W n0 n1 d0 d1)
  rw [hm] at HCF
  rw [ht] at HTT
  clear hR
  have HZ := Lib.hid ((Upd.refl (fun _ => False) w).alloc (.cells #[.int .i64 n, .int .i64 d] 25))
  have hb0 := alloc0 w (.cells #[.int .i64 n, .int .i64 d] 25)
  have HL : Hid ((w.alloc (.cells #[.int .i64 n, .int .i64 d] 25)).heap.size = w.heap.size + 1) := Lib.hid (by simp)
  have HX : Hid (∀ W, Ext (w.alloc (.cells #[.int .i64 n, .int .i64 d] 25)) W → W.cell? ⟨w.heap.size, 0, none⟩ = some (.int .i64 n) ∧ W.cell? ⟨w.heap.size, 1, none⟩ = some (.int .i64 d)) := Lib.hid (fun W hW => ⟨cellRow (hW.heap hb0 (fun h => h)) 0 _ rfl, cellRow (hW.heap hb0 (fun h => h)) 1 _ rfl⟩)
  clear hb0
  obtain ⟨k00, k01⟩ := HX.out _ (Upd.refl _ _)
  go_enter Try.func13, Try.ntmps13
  go_wp2_with fail
  refine (HCF.out _ HZ.out).mono ?_
  rintro e w4 ⟨rfl, hw4⟩
  have H4 := Lib.hid (hw4)
  clear hw4
  clear k00 k01
  obtain ⟨k00, k01⟩ := HX.out _ H4.out
  go_wp2_with fail
  refine (HTT.out _).mono ?_
  rintro e w5 ⟨rfl, hw5⟩
  have H5 := Lib.hid (H4.out.ext hw5)
  clear hw5
  clear k00 k01
  obtain ⟨k00, k01⟩ := HX.out _ H5.out
  go_wp2_with fail
  go_ret2
  exact ⟨_, rfl, World.ownsRow_nil _ _ _ _, HZ.out.ext H5.out⟩
set_option maxRecDepth 100000 in
set_option maxHeartbeats 2000000 in
theorem Order_full (l : List Mo) (n d : Int) (S : Nat → Prop) (v : Value) (w : World) (n0 : -9223372036854775808 ≤ n) (n1 : n ≤ 9223372036854775807) (d0 : -9223372036854775808 ≤ d) (d1 : d ≤ 9223372036854775807) (hl2 : l.length ≤ 4611686018427387904) (hR : MoR S w v l) (hS : ∀ k, S k → k < w.heap.size) (hm : mB l = true) (ht : timeB n d = true) (hl : 64 < l.length) :
    Calls Try.prog 13 #[v, .agg #[.int .i64 n, .int .i64 d]] w fun e w' => ∃ r, e = .returned (.tuple #[r, .int .i64 4]) ∧ w'.ownsRow w.heap.size 3 1 r 0 [] ∧ Ext w w' := by
  obtain ⟨a, cap, rfl⟩ := hR.shape
  have HRb : Hid (∀ W, Ext w W → MoR S W (.slice a l.length cap) l) := Lib.hid (fun W h => hR.ext h)
  have HCF : Hid (∀ W, Ext w W → Calls Try.prog 51 #[.slice a l.length cap, .func (.func 46) #[] #[]] W fun e w' => e = .returned (.bool (!mB l)) ∧ Ext W w') := Lib.hid (fun W h => conf_x l S _ W (hR.ext h) hl2)
  have HTT : Hid (∀ W, Calls Try.prog 47 #[.agg #[.int .i64 n, .int .i64 d]] W fun e w' => e = .returned (.bool (timeB n d)) ∧ Ext W w') := Lib.hid (fun W => time_x n d W n0 n1 d0 d1)
  rw [hm] at HCF
  rw [ht] at HTT
  have t1 : decide ((64 : Int) < (l.length : Int)) = true := decide_eq_true (by omega)
  clear hR
  have HZ := Lib.hid ((Upd.refl (fun _ => False) w).alloc (.cells #[.int .i64 n, .int .i64 d] 25))
  have hb0 := alloc0 w (.cells #[.int .i64 n, .int .i64 d] 25)
  have HL : Hid ((w.alloc (.cells #[.int .i64 n, .int .i64 d] 25)).heap.size = w.heap.size + 1) := Lib.hid (by simp)
  have HX : Hid (∀ W, Ext (w.alloc (.cells #[.int .i64 n, .int .i64 d] 25)) W → W.cell? ⟨w.heap.size, 0, none⟩ = some (.int .i64 n) ∧ W.cell? ⟨w.heap.size, 1, none⟩ = some (.int .i64 d)) := Lib.hid (fun W hW => ⟨cellRow (hW.heap hb0 (fun h => h)) 0 _ rfl, cellRow (hW.heap hb0 (fun h => h)) 1 _ rfl⟩)
  clear hb0
  obtain ⟨k00, k01⟩ := HX.out _ (Upd.refl _ _)
  go_enter Try.func13, Try.ntmps13
  go_wp2_with fail
  refine (HCF.out _ HZ.out).mono ?_
  rintro e w4 ⟨rfl, hw4⟩
  have H4 := Lib.hid (hw4)
  clear hw4
  clear k00 k01
  obtain ⟨k00, k01⟩ := HX.out _ H4.out
  go_wp2_with fail
  refine (HTT.out _).mono ?_
  rintro e w5 ⟨rfl, hw5⟩
  have H5 := Lib.hid (H4.out.ext hw5)
  clear hw5
  clear k00 k01
  obtain ⟨k00, k01⟩ := HX.out _ H5.out
  go_wp2_with fail
  go_ret2
  exact ⟨_, rfl, World.ownsRow_nil _ _ _ _, HZ.out.ext H5.out⟩
set_option maxRecDepth 100000 in
set_option maxHeartbeats 2000000 in
theorem Order_ok (l : List Mo) (n d : Int) (S : Nat → Prop) (v : Value) (w : World) (n0 : -9223372036854775808 ≤ n) (n1 : n ≤ 9223372036854775807) (d0 : -9223372036854775808 ≤ d) (d1 : d ≤ 9223372036854775807) (hl2 : l.length ≤ 4611686018427387904) (hR : MoR S w v l) (hS : ∀ k, S k → k < w.heap.size) (hm : mB l = true) (ht : timeB n d = true) (hl : l.length ≤ 64) :
    Calls Try.prog 13 #[v, .agg #[.int .i64 n, .int .i64 d]] w fun e w' => ∃ r, e = .returned (.tuple #[r, .int .i64 0]) ∧ w'.ownsRow w.heap.size 3 1 r l.length (iCells (ordF l n d)) ∧ Ext w w' := by
  obtain ⟨a, cap, rfl⟩ := hR.shape
  have HRb : Hid (∀ W, Ext w W → MoR S W (.slice a l.length cap) l) := Lib.hid (fun W h => hR.ext h)
  have HCF : Hid (∀ W, Ext w W → Calls Try.prog 51 #[.slice a l.length cap, .func (.func 46) #[] #[]] W fun e w' => e = .returned (.bool (!mB l)) ∧ Ext W w') := Lib.hid (fun W h => conf_x l S _ W (hR.ext h) hl2)
  have HTT : Hid (∀ W, Calls Try.prog 47 #[.agg #[.int .i64 n, .int .i64 d]] W fun e w' => e = .returned (.bool (timeB n d)) ∧ Ext W w') := Lib.hid (fun W => time_x n d W n0 n1 d0 d1)
  have HOO : Hid (∀ W, Ext w W → Calls Try.prog 52 #[.slice a l.length cap, .agg #[.int .i64 n, .int .i64 d]] W fun e w' => ∃ r, e = .returned r ∧ w'.ownsRow W.heap.size 3 1 r l.length (iCells (ordF l n d)) ∧ Ext W w') := Lib.hid (fun W h => order_x l n d S _ W (by omega) hm ((timeB_iff _ _).1 ht).1 (hR.ext h) (fun k hk => Nat.lt_of_lt_of_le (hS k hk) h.size))
  rw [hm] at HCF
  rw [ht] at HTT
  have t1 : decide ((64 : Int) < (l.length : Int)) = false := decide_eq_false (by omega)
  clear hR
  have HZ := Lib.hid ((Upd.refl (fun _ => False) w).alloc (.cells #[.int .i64 n, .int .i64 d] 25))
  have hb0 := alloc0 w (.cells #[.int .i64 n, .int .i64 d] 25)
  have HL : Hid ((w.alloc (.cells #[.int .i64 n, .int .i64 d] 25)).heap.size = w.heap.size + 1) := Lib.hid (by simp)
  have HX : Hid (∀ W, Ext (w.alloc (.cells #[.int .i64 n, .int .i64 d] 25)) W → W.cell? ⟨w.heap.size, 0, none⟩ = some (.int .i64 n) ∧ W.cell? ⟨w.heap.size, 1, none⟩ = some (.int .i64 d)) := Lib.hid (fun W hW => ⟨cellRow (hW.heap hb0 (fun h => h)) 0 _ rfl, cellRow (hW.heap hb0 (fun h => h)) 1 _ rfl⟩)
  clear hb0
  obtain ⟨k00, k01⟩ := HX.out _ (Upd.refl _ _)
  go_enter Try.func13, Try.ntmps13
  go_wp2_with fail
  refine (HCF.out _ HZ.out).mono ?_
  rintro e w4 ⟨rfl, hw4⟩
  have H4 := Lib.hid (hw4)
  clear hw4
  clear k00 k01
  obtain ⟨k00, k01⟩ := HX.out _ H4.out
  go_wp2_with fail
  refine (HTT.out _).mono ?_
  rintro e w5 ⟨rfl, hw5⟩
  have H5 := Lib.hid (H4.out.ext hw5)
  clear hw5
  clear k00 k01
  obtain ⟨k00, k01⟩ := HX.out _ H5.out
  go_wp2_with fail
  have HW5 := Lib.hid (HZ.out.ext H5.out)
  refine (HOO.out _ HW5.out).mono ?_
  rintro e w6 ⟨r, rfl, hO6, hw6⟩
  have HO6 := Lib.hid (own_base hO6 HW5.out.size)
  have H6 := Lib.hid (HW5.out.ext hw6)
  clear hO6 hw6
  go_wp2_with fail
  go_ret2
  exact ⟨_, rfl, HO6.out, H6.out⟩

end Go.Proofs.Ytncnojhbdkhcjaa

/- Insertion. -/
namespace Go.Proofs.Ytncnojhbdkhcjaa
open Go.RowKit Go.Hw
set_option linter.unusedVariables false
set_option linter.unusedSimpArgs false

theorem own_set {w : World} {b : Nat} {e : TypeId} {g cap n : Nat} {xs : List Value} (h : w.ownsRow b e 1 (.slice (some ⟨g, 0, none⟩) n cap) n xs) (j : Nat) (u : Value) (hj : j < n) :
    (w.setCell ⟨g, j, none⟩ u).ownsRow b e 1 (.slice (some ⟨g, 0, none⟩) n cap) n (xs.set j u) := by
  obtain ⟨h1, ⟨e0, _⟩ | ⟨g', cap', cur, e0, h3, h4, h5, h6, h7, h8⟩⟩ := h
  · cases e0
  · injection e0 with e1 e2 e3
    injection e1 with e1
    injection e1 with e1
    subst e1; subst e3
    refine ⟨by rw [List.length_set]; exact h1, .inr ⟨g, cap, _, rfl, h3, setBlock h4 j u, h5, h6, by rw [Array.size_setIfInBounds]; exact h7, ?_⟩⟩
    rw [← h8, Array.toList_setIfInBounds, List.take_set]
/-- the row while j is being put into its place -/
def insR (A : List Nat) (j k : Nat) : List Nat := A.take k ++ j :: A.drop k
theorem insR_len (A : List Nat) (j k : Nat) (h : k ≤ A.length) : (insR A j k).length = A.length + 1 := by
  unfold insR; simp; omega
theorem insR_end (A : List Nat) (j : Nat) : insR A j A.length = A ++ [j] := by unfold insR; simp
theorem insR_at (A : List Nat) (j k : Nat) (h : k ≤ A.length) : (insR A j k).getD k 0 = j := by
  unfold insR
  rw [List.getD_eq_getElem?_getD, List.getElem?_append_right (by simp; omega)]
  simp [Nat.min_eq_left h]
theorem insR_pred (A : List Nat) (j k : Nat) (h : k + 1 ≤ A.length) : (insR A j (k + 1)).getD k 0 = A.getD k 0 := by
  unfold insR
  rw [List.getD_eq_getElem?_getD, List.getElem?_append_left (by simp; omega), List.getElem?_take_of_lt (by omega), List.getD_eq_getElem?_getD]
theorem insR_step (A : List Nat) (j k : Nat) (h : k + 1 ≤ A.length) : ((insR A j (k + 1)).set k j).set (k + 1) (A.getD k 0) = insR A j k := by
  unfold insR
  apply List.ext_getElem?
  intro i
  have hk : k < A.length := by omega
  simp only [List.getElem?_set, List.length_set, List.length_append, List.length_take, List.length_cons, List.length_drop, List.getD_eq_getElem?_getD, List.getElem?_eq_getElem hk, Option.getD_some]
  by_cases h1 : k + 1 = i
  · subst h1
    rw [if_pos rfl, if_pos (by omega), List.getElem?_append_right (by simp; omega)]
    simp only [List.length_take, Nat.min_eq_left (Nat.le_of_lt hk)]
    rw [show k + 1 - k = 1 by omega]
    simp [hk]
  · rw [if_neg h1]
    by_cases h2 : k = i
    · subst h2
      rw [if_pos rfl, if_pos (by omega), List.getElem?_append_right (by simp; omega)]
      simp [Nat.min_eq_left (Nat.le_of_lt hk)]
    · rw [if_neg h2]
      by_cases h3 : i < k
      · rw [List.getElem?_append_left (by simp; omega), List.getElem?_append_left (by simp; omega), List.getElem?_take_of_lt (by omega), List.getElem?_take_of_lt h3]
      · rw [List.getElem?_append_right (by simp; omega), List.getElem?_append_right (by simp; omega)]
        simp only [List.length_take, Nat.min_eq_left (Nat.le_of_lt hk), Nat.min_eq_left h]
        rw [show i - (k + 1) = (i - k - 2) + 1 by omega, show i - k = (i - k - 1) + 1 by omega, List.getElem?_cons_succ, List.getElem?_cons_succ, List.getElem?_drop, List.getElem?_drop]
        congr 1
        omega
theorem insR_perm (A : List Nat) (j k : Nat) (hp : A.Perm (List.range j)) : (insR A j k).Perm (List.range (j + 1)) := by
  unfold insR
  rw [List.range_succ]
  have h1 : (A.take k ++ j :: A.drop k).Perm (j :: (A.take k ++ A.drop k)) := List.perm_middle
  rw [List.take_append_drop] at h1
  exact h1.trans ((List.perm_append_singleton j A).symm.trans (hp.append_right [j]))
/-- in its place -/
theorem insR_sorted {l : List Mo} {n d : Int} {A : List Nat} {j k : Nat} (hp : A.Perm (List.range j)) (hs : A.Pairwise (fun a b => lessK l n d a b = true)) (hk : k ≤ A.length)
    (hu : ∀ a ∈ A.drop k, lessK l n d j a = true) (hd : k = 0 ∨ lessK l n d j (A.getD (k - 1) 0) = false) : (insR A j k).Pairwise (fun a b => lessK l n d a b = true) := by
  unfold insR
  have hne : ∀ a ∈ A, a ≠ j := fun a ha e => by
    have := hp.mem_iff.1 ha
    rw [List.mem_range] at this
    omega
  have hlow : ∀ a ∈ A.take k, lessK l n d a j = true := by
    intro a ha
    rcases hd with h0 | h0
    · subst h0; simp at ha
    · rcases Nat.eq_zero_or_pos k with hz | hz
      · subst hz; simp at ha
      · have hk1 : k - 1 < A.length := by omega
        have hmem : A.getD (k - 1) 0 ∈ A := by rw [List.getD_eq_getElem?_getD, List.getElem?_eq_getElem hk1]; exact List.getElem_mem hk1
        have hlast : lessK l n d (A.getD (k - 1) 0) j = true := by
          rcases lessK_tot l n d _ _ (hne _ hmem) with h | h
          · exact h
          · rw [h] at h0; cases h0
        obtain ⟨i, hi, rfl⟩ := List.mem_iff_getElem.1 ha
        have hi2 : i < k := by simp at hi; omega
        rw [List.getElem_take]
        rcases Nat.lt_or_ge i (k - 1) with h | h
        · have := List.pairwise_iff_getElem.1 hs i (k - 1) (by omega) hk1 h
          refine lessK_trans this ?_
          rw [List.getD_eq_getElem?_getD, List.getElem?_eq_getElem hk1] at hlast
          exact hlast
        · have he : i = k - 1 := by omega
          subst he
          rw [List.getD_eq_getElem?_getD, List.getElem?_eq_getElem hk1] at hlast
          exact hlast
  rw [← List.take_append_drop k A, List.pairwise_append] at hs
  obtain ⟨s1, s2, s3⟩ := hs
  rw [List.pairwise_append]
  refine ⟨s1, List.pairwise_cons.2 ⟨hu, s2⟩, ?_⟩
  intro a ha b hb
  rcases List.mem_cons.1 hb with rfl | hb
  · exact hlow a ha
  · exact s3 a ha b hb
theorem insR_up {l : List Mo} {n d : Int} {A : List Nat} {j k : Nat} (hk : k + 1 ≤ A.length) (hu : ∀ a ∈ A.drop (k + 1), lessK l n d j a = true) (h : lessK l n d j (A.getD k 0) = true) : ∀ a ∈ A.drop k, lessK l n d j a = true := by
  intro a ha
  rw [List.drop_eq_getElem_cons (by omega : k < A.length)] at ha
  rcases List.mem_cons.1 ha with rfl | ha
  · rw [List.getD_eq_getElem?_getD, List.getElem?_eq_getElem (by omega : k < A.length)] at h; exact h
  · exact hu a ha

end Go.Proofs.Ytncnojhbdkhcjaa

/- Order of the reference. -/
namespace Go.Proofs.Ytncnojhbdkhcjaa
open Go.RowKit Go.Hw
set_option linter.unusedVariables false
set_option linter.unusedSimpArgs false
theorem own_block {w : World} {b : Nat} {e : TypeId} {size g n cap : Nat} {xs : List Value} (h : w.ownsRow b e size (.slice (some ⟨g, 0, none⟩) n cap) n xs) : ∃ cur, w.heap[g]? = some (.cells cur e (0, 0)) := by
  obtain ⟨_, ⟨e0, _⟩ | ⟨g', cap', cur, e0, _, h4, _⟩⟩ := h
  · cases e0
  · injection e0 with e1 e2 e3
    injection e1 with e1
    injection e1 with e1
    subst e1
    exact ⟨cur, h4⟩
theorem own_cell {w : World} {b : Nat} {e : TypeId} {g n cap : Nat} {xs : List Value} (h : w.ownsRow b e 1 (.slice (some ⟨g, 0, none⟩) n cap) n xs) (i : Nat) (hi : i < n) : w.cell? ⟨g, i, none⟩ = xs[i]? := by
  have := SlR.cellAt (SlR.of_own h) rfl (j := i) (by omega)
  rw [Nat.zero_add] at this
  exact this
theorem iCells_set (L : List Nat) (i v : Nat) : (iCells L).set i (.int .i64 (v : Int)) = iCells (L.set i v) := by
  unfold iCells
  rw [List.map_set, List.map_set]
theorem own_sets {w : World} {b g c : Nat} {A : List Nat} {j : Nat} (k j' p : Nat) (h : w.ownsRow b 3 1 (.slice (some ⟨g, 0, none⟩) (j + 1) c) (j + 1) (iCells (insR A j (k + 1)))) (hk : k + 1 < j + 1) (hs : ((insR A j (k + 1)).set k j').set (k + 1) p = insR A j k) :
    ((w.setCell ⟨g, k, none⟩ (.int .i64 (j' : Int))).setCell ⟨g, k + 1, none⟩ (.int .i64 (p : Int))).ownsRow b 3 1 (.slice (some ⟨g, 0, none⟩) (j + 1) c) (j + 1) (iCells (insR A j k)) ∧
    ((w.setCell ⟨g, k + 1, none⟩ (.int .i64 (p : Int))).setCell ⟨g, k, none⟩ (.int .i64 (j' : Int))).ownsRow b 3 1 (.slice (some ⟨g, 0, none⟩) (j + 1) c) (j + 1) (iCells (insR A j k)) := by
  have h1 := own_set (own_set h k (.int .i64 (j' : Int)) (by omega)) (k + 1) (.int .i64 (p : Int)) hk
  have h2 := own_set (own_set h (k + 1) (.int .i64 (p : Int)) hk) k (.int .i64 (j' : Int)) (by omega)
  rw [iCells_set, iCells_set, hs] at h1
  rw [iCells_set, iCells_set, List.set_comm _ _ (by omega), hs] at h2
  exact ⟨h1, h2⟩
set_option maxRecDepth 100000 in
set_option maxHeartbeats 2000000 in
theorem rorder_x (l : List Mo) (n d : Int) (S : Nat → Prop) (v : Value) (w : World) (hl2 : l.length ≤ 100000) (hm : mB l = true) (hv : vfB n d = true) (hR : MoR S w v l) (hS : ∀ k, S k → k < w.heap.size) :
    Calls Try.prog 20 #[v, .agg #[.int .i64 n, .int .i64 d]] w fun e w' => ∃ r, e = .returned r ∧ w'.ownsRow w.heap.size 3 1 r l.length (iCells (ordF l n d)) ∧ Ext w w' := by
  obtain ⟨i0, hi, hz0, hz1, hz2⟩ := info_parts info3
  obtain ⟨a, cap, rfl⟩ := hR.shape
  have HZ : Hid (Ext w ((w.alloc (.cells #[.int .i64 n, .int .i64 d] 25)).alloc (.cells #[] 3))) := Lib.hid (((Upd.refl (fun _ => False) w).alloc _).alloc _)
  have hb := allocOld (alloc0 w (.cells #[.int .i64 n, .int .i64 d] 25)) (.cells #[] 3)
  have HX : Hid (∀ W, Ext ((w.alloc (.cells #[.int .i64 n, .int .i64 d] 25)).alloc (.cells #[] 3)) W → W.cell? ⟨w.heap.size, 0, none⟩ = some (.int .i64 n) ∧ W.cell? ⟨w.heap.size, 1, none⟩ = some (.int .i64 d)) := Lib.hid (fun W hW => ⟨cellRow (hW.heap hb (fun h => h)) 0 _ rfl, cellRow (hW.heap hb (fun h => h)) 1 _ rfl⟩)
  have HX2 : Hid (∀ W, Upd (fun k => w.heap.size + 1 ≤ k) ((w.alloc (.cells #[.int .i64 n, .int .i64 d] 25)).alloc (.cells #[] 3)) W → W.cell? ⟨w.heap.size, 0, none⟩ = some (.int .i64 n) ∧ W.cell? ⟨w.heap.size, 1, none⟩ = some (.int .i64 d)) := Lib.hid (fun W hW => ⟨cellRow (hW.heap hb (by omega)) 0 _ rfl, cellRow (hW.heap hb (by omega)) 1 _ rfl⟩)
  have hO0 : ((w.alloc (.cells #[.int .i64 n, .int .i64 d] 25)).alloc (.cells #[] 3)).ownsRow (w.heap.size + 1) 3 1 (.slice (some ⟨w.heap.size + 1, 0, none⟩) 0 0) 0 (iCells []) := by
    have := World.ownsRow_lit (base := w.heap.size + 1) (e := 3) (size := 1) (w.alloc (.cells #[.int .i64 n, .int .i64 d] 25)) #[] 0 (by simp) (by unfold maxLen; omega) (by simp)
    rw [show (w.alloc (.cells #[.int .i64 n, .int .i64 d] 25)).heap.size = w.heap.size + 1 by simp] at this
    exact this
  have HO0 := Lib.hid hO0
  clear hb hO0
  have HSS := Lib.hid hS
  have HRR : Hid (MoR S w (.slice a l.length cap) l) := Lib.hid hR
  have HL : Hid (((w.alloc (.cells #[.int .i64 n, .int .i64 d] 25)).alloc (.cells #[] 3)).heap.size = w.heap.size + 2) := Lib.hid (by simp)
  have HM : Hid (mB l = true ∧ vfB n d = true) := Lib.hid ⟨hm, hv⟩
  have HU := Lib.hid (fun A h1 h2 => ord_unique (l := l) (n := n) (d := d) (L := A) h1 h2)
  generalize hQ : iCells (ordF l n d) = Q at *
  clear hR hS hm hv hi hz0 hz1 hz2 i0
  go_enter Try.func20, Try.ntmps20
  go_wp2_with fail
  generalize ((w.alloc (.cells #[.int .i64 n, .int .i64 d] 25)).alloc (.cells #[] 3)) = wb at *
  go_loopg [5, 6] l.length (fun gk bv i wr => ∃ (j : Nat) (A : List Nat), i = .int .i64 j ∧ gk = l.length - j ∧ j ≤ l.length ∧ Hid (Upd (fun k => w.heap.size + 1 ≤ k) wb wr) ∧ Hid (wr.ownsRow (w.heap.size + 1) 3 1 bv j (iCells A)) ∧ Hid (A.Perm (List.range j) ∧ A.Pairwise (fun a b => lessK l n d a b = true)))
  case atStart => exact ⟨0, [], rfl, rfl, Nat.zero_le _, Lib.hid (Upd.refl _ _), HO0, Lib.hid ⟨List.Perm.refl _, List.Pairwise.nil⟩⟩
  case round =>
    obtain ⟨i0, hi, hz0, hz1, hz2⟩ := info_parts info3
    obtain ⟨j, A, rfl, rfl, hj, HE, HO, HA⟩ := hrel
    obtain ⟨a4, c4, hv4⟩ := own_shape HO.out
    subst hv4
    have hsz := HE.out.size
    have hL := HL.out
    by_cases hlt : j < l.length
    · have z1 : (j : Int) < (l.length : Int) := by omega
      have hAl : A.length = j := by rw [HA.out.1.length_eq, List.length_range]
      have HN := Lib.hid (iCells_snoc A j)
      have HAl := Lib.hid hAl
      clear hAl
      go_wp2_with (at_builtin; refine wpList_append_at _ rfl (.tmp 17) (.tmp 19) 33 rfl (w.heap.size + 1) 3 i0 (.int .i64 0) 1 8 Try.underlying33 hi hz0 hz1 hz2 rfl (by decide) _ _ _ rfl (HO.out.alloc _) ⟨wr.heap.size, 0, none⟩ 1 1 [.int .i64 (j : Int)] rfl rfl ?c1 ?c2 ?c3 ?c4 ?c5 ?_)
      case c1 =>
        intro j u hj
        match j, hj with
        | 0, hj => simp at hj; subst hj; simp [Addr.add]
      case c2 => intro u hu; simp at hu; subst hu; rfl
      case c3 => unfold maxLen; omega
      case c4 => omega
      case c5 => simp; omega
      intro v5 w5 hG
      have HO5 : Hid (w5.ownsRow (w.heap.size + 1) 3 1 v5 (j + 1) (iCells (insR A j j))) := Lib.hid (by rw [show insR A j j = A ++ [j] by rw [← HAl.out]; exact insR_end A _, HN.out]; exact hG.own)
      have HE5 : Hid (Upd (fun k => w.heap.size + 1 ≤ k) wb w5) := Lib.hid ((HE.out.alloc _).trans' hG.upd (fun i hi e => (HO.out.lt i e).1))
      obtain ⟨g, c5, hv5⟩ := own_some HO5.out (by omega)
      subst hv5
      obtain ⟨g', c', hv', hbg, hgl, _⟩ := ownAt HO5.out (by omega)
      injection hv' with e1 e2 e3
      injection e1 with e1
      injection e1 with e1
      subst e1
      clear e2 e3 hG HO HE hgl
      have HLS : Hid (∀ W (p : Nat), Upd (fun k => w.heap.size + 1 ≤ k) wb W → p < l.length → Calls Try.prog 54 #[.slice a l.length cap, .agg #[.int .i64 n, .int .i64 d], .int .i64 j, .int .i64 p] W fun e w' => e = .returned (.bool (lessK l n d j p)) ∧ Ext W w') := Lib.hid (fun W p hW hp => by
        have hq := (HRR.out.ext HZ.out).kept hW (fun k hk h => by have := HSS.out k hk; omega)
        obtain ⟨g2, off, rfl⟩ := hq.at_ (by omega)
        exact less_x g2 off cap l n d j p S W HM.out.1 HM.out.2 hlt hp hl2 hq)
      have HAL : Hid (∀ p, p < A.length → A.getD p 0 < l.length) := Lib.hid (fun p hp => by
        have hmem : A.getD p 0 ∈ A := by rw [List.getD_eq_getElem?_getD, List.getElem?_eq_getElem hp]; exact List.getElem_mem hp
        have := HA.out.1.mem_iff.1 hmem
        rw [List.mem_range] at this
        omega)
      go_wp2_with fail
      go_loopg [7] j (fun gk kv ws => ∃ k : Nat, kv = .int .i64 k ∧ gk = 0 + k ∧ k ≤ j ∧ Hid (Upd (fun k => w.heap.size + 1 ≤ k) wb ws) ∧ Hid (ws.ownsRow (w.heap.size + 1) 3 1 (.slice (some ⟨g, 0, none⟩) (j + 1) c5) (j + 1) (iCells (insR A j k))) ∧ Hid (∀ a ∈ A.drop k, lessK l n d j a = true))
      case atStart => exact ⟨j, rfl, (Nat.zero_add j).symm, Nat.le_refl _, HE5, HO5, Lib.hid (fun a ha => by rw [List.drop_of_length_le (by rw [HAl.out]; exact Nat.le_refl _)] at ha; cases ha)⟩
      case round =>
        obtain ⟨k, rfl, rfl, hk, HE6, HO6, HD6⟩ := hrel
        cases k with
        | zero =>
          have HP := Lib.hid (insR_perm A j 0 HA.out.1)
          have HSd := Lib.hid (insR_sorted HA.out.1 HA.out.2 (Nat.zero_le _) HD6.out (.inl rfl))
          clear HA HD6
          go_wp2_with fail
          go_quiet (fail)
          go_wp2_with fail
          go_roundg (l.length - (j + 1))
          case measure => omega
          case rel => exact ⟨j + 1, insR A j 0, by go_num, rfl, by omega, Lib.hid ⟨HE6.out.os, HE6.out.tape, HE6.out.output, HE6.out.size, HE6.out.block⟩, HO6, Lib.hid ⟨HP.out, HSd.out⟩⟩
        | succ k =>
          have hkA : k + 1 ≤ A.length := by rw [HAl.out]; exact hk
          have hp := HAL.out k hkA
          have e1 := insR_at A j (k + 1) hkA
          have e2 := insR_pred A j k hkA
          have e3 := insR_len A j (k + 1) hkA
          obtain ⟨cur, hcur⟩ := own_block HO6.out
          have c0 : wr.cell? ⟨g, k + 1, none⟩ = some (.int .i64 j) := by
            have := own_cell HO6.out (k + 1) (by omega)
            rw [iCells_at _ _ (by rw [e3]; omega), e1] at this
            exact this
          have c1 : wr.cell? ⟨g, k, none⟩ = some (.int .i64 (A.getD k 0 : Nat)) := by
            have := own_cell HO6.out k (by omega)
            rw [iCells_at _ _ (by rw [e3]; omega), e2] at this
            exact this
          have hx := HX2.out wr HE6.out
          have HLC := Lib.hid (fun W (hW : Ext wr W) => HLS.out W (A.getD k 0) (HE6.out.trans' hW (fun _ _ h => h.elim)) hp)
          have HST := Lib.hid (insR_step A j k hkA)
          have HUP := Lib.hid (fun (h : lessK l n d j (A.getD k 0) = true) => insR_up hkA HD6.out h)
          have HEN := Lib.hid (fun (h : lessK l n d j (A.getD k 0) = false) => insR_sorted (k := k + 1) HA.out.1 HA.out.2 hkA HD6.out (.inr h))
          have HPM := Lib.hid (insR_perm A j (k + 1) HA.out.1)
          have i0' : (0 : Int) ≤ (k : Int) := by omega
          have i1' : (k : Int) + 1 < (j : Int) + 1 := by omega
          have i2' : (k : Int) < (j : Int) + 1 := by omega
          have i3' : decide ((0 : Int) < (k : Int) + 1) = true := decide_eq_true (by omega)
          have x0 := fun x : XW wr => x.ext.cell hx.1 (fun h => h)
          have x1 := fun x : XW wr => x.ext.cell hx.2 (fun h => h)
          have x2 := fun x : XW wr => x.ext.cell c0 (fun h => h)
          have x3 := fun x : XW wr => x.ext.cell c1 (fun h => h)
          have HB := Lib.hid hcur
          have hrfs := Upd.refl (fun _ => False) wr
          clear hp e1 e2 e3 hx c0 c1 hcur
          have ek : ((k + 1 : Nat) : Int) = (k : Int) + 1 := by omega
          generalize hlk : lessK l n d j (A.getD k 0) = B at HLC HUP HEN
          generalize hap : A.getD k 0 = p at *
          clear hlk hap hkA HRR HSS HM HAL HLS HX HX2
          simp only [ek]
          clear ek
          cases B
          · have HSd := Lib.hid (HEN.out rfl)
            clear HUP HEN HST HB
            go_wp2_with fail
            refine wp_region_ext wr (by assumption) (by kernel_rfl) (by kernel_rfl) ?_
            repeat (first | go_big_quiet_skip | (go_big_quiet_want; go_big_quiet_op; first | go_big_quiet_on | (apply Exists.intro; refine ⟨fun x => ?_, ?_⟩; (go_at_call 54; exact XW.call (HLC.out x.val x.ext)); go_big_quiet_on)))
            refine wpQuiet_nil ?_
            rintro w6 ⟨⟨_, hyw6⟩, rfl⟩
            try dsimp only
            go_wp2_with fail
            have HE7 := Lib.hid (HE6.out.trans' hyw6 (fun _ _ h => h.elim))
            have HO7 := Lib.hid (own_kept HO6.out hyw6 (fun _ _ h => h))
            go_roundg (l.length - (j + 1))
            case measure => omega
            case rel => exact ⟨j + 1, insR A j (k + 1), by go_num, rfl, by omega, HE7, HO7, Lib.hid ⟨HPM.out, HSd.out⟩⟩
          · have HD7 := Lib.hid (HUP.out rfl)
            clear HUP HEN
            go_wp2_with fail
            refine wp_region_ext wr (by assumption) (by kernel_rfl) (by kernel_rfl) ?_
            repeat (first | go_big_quiet_skip | (go_big_quiet_want; go_big_quiet_op; first | go_big_quiet_on | (apply Exists.intro; refine ⟨fun x => ?_, ?_⟩; (go_at_call 54; exact XW.call (HLC.out x.val x.ext)); go_big_quiet_on)))
            refine wpQuiet_nil ?_
            rintro w6 ⟨⟨_, hyw6⟩, rfl⟩
            try dsimp only
            have HE7 := Lib.hid (HE6.out.trans' hyw6 (fun _ _ h => h.elim))
            have HO7 := Lib.hid (own_kept HO6.out hyw6 (fun _ _ h => h))
            have hB6 := hyw6.heap HB.out (fun h => h)
            have m0 := frozenRow hB6 k
            have m1 := frozenRow hB6 (k + 1)
            have c0 : w6.cell? ⟨g, k + 1, none⟩ = some (.int .i64 j) := x2 ⟨w6, hyw6⟩
            have c1 : w6.cell? ⟨g, k, none⟩ = some (.int .i64 p) := x3 ⟨w6, hyw6⟩
            clear x0 x1 x2 x3 hB6 hyw6 HLC HB hrfs
            go_wp2_with fail
            go_region
            all_goals
              go_wp2_with fail
              have hO8 := own_sets k j p HO7.out (by omega) HST.out
              have hE8 := HE7.out
              go_roundg k
              case measure => omega
              case rel => exact ⟨k, by go_num, by omega, by omega, Lib.hid (by first | exact (hE8.setCell (.inl hbg) _).setCell (.inl hbg) _ | exact ((hE8.setCell (.inl hbg) _).setCell (.inl hbg) _).drew), Lib.hid (by first | exact hO8.1 | exact hO8.2), HD7⟩
    · obtain rfl : j = l.length := by omega
      have hq := HU.out A HA.out.1 HA.out.2
      have HF : Hid (Ext w wr) := Lib.hid (HZ.out.trans' HE.out (fun i hi e => by omega))
      subst hq
      subst hQ
      go_wp2_with fail
      go_ret
      exact ⟨_, rfl, own_base HO.out (by omega), HF.out⟩

end Go.Proofs.Ytncnojhbdkhcjaa

/- Equality of structs. -/
namespace Go.Proofs.Ytncnojhbdkhcjaa
open Go.RowKit Go.Hw
set_option linter.unusedVariables false
set_option linter.unusedSimpArgs false

theorem eqM (a b c d : Int) (w : World) : (Op.equalIn 10000 23 (.agg #[.int .i64 a, .int .i64 b]) (.agg #[.int .i64 c, .int .i64 d])).run Try.prog w = .ok (a == c && b == d) w := by
  have u3 := Try.underlying3
  have hS : Try.prog.underlying 23 = some (.struct (Try.prog.fieldsOf 23)) := by kernel_rfl
  have hp : Try.prog.stoodInHeld 23 = false := by kernel_rfl
  rw [show (10000 : Nat) = 9999 + 1 from rfl, run_equalIn_agg w 9999 23 _ _ hS hp]
  simp only [Program.fieldsOf, Try.underlying23]
  go_simp
  by_cases h1 : a = c <;> by_cases h2 : b = d <;> simp [h1, h2]
theorem eqF (k : Nat) (a b c d : Int) (w : World) : (Op.equalIn (k + 2) 25 (.agg #[.int .i64 a, .int .i64 b]) (.agg #[.int .i64 c, .int .i64 d])).run Try.prog w = .ok (a == c && b == d) w := by
  have u3 := Try.underlying3
  have hS : Try.prog.underlying 25 = some (.struct (Try.prog.fieldsOf 25)) := by kernel_rfl
  have hp : Try.prog.stoodInHeld 25 = false := by kernel_rfl
  rw [show k + 2 = (k + 1) + 1 from rfl, run_equalIn_agg w (k + 1) 25 _ _ hS hp]
  simp only [Program.fieldsOf, Try.underlying25]
  go_simp
  by_cases h1 : a = c <;> by_cases h2 : b = d <;> simp [h1, h2]
theorem eqS (a b c d e f g h : Int) (w : World) : (Op.equalIn 10000 51 (.agg #[.int .i64 a, .int .i64 b, .int .i64 c, .int .i64 d]) (.agg #[.int .i64 e, .int .i64 f, .int .i64 g, .int .i64 h])).run Try.prog w = .ok ((a == e && b == f) && (c == g && d == h)) w := by
  have u3 := Try.underlying3
  have hS : Try.prog.underlying 51 = some (.struct (Try.prog.fieldsOf 51)) := by kernel_rfl
  have hp : Try.prog.stoodInHeld 51 = false := by kernel_rfl
  rw [show (10000 : Nat) = 9999 + 1 from rfl, run_equalIn_agg w 9999 51 _ _ hS hp]
  simp only [Program.fieldsOf, Try.underlying51]
  go_simp
  by_cases h1 : a = e <;> by_cases h2 : b = f <;> by_cases h3 : c = g <;> by_cases h4 : d = h <;> simp [h1, h2, h3, h4]

end Go.Proofs.Ytncnojhbdkhcjaa

/- Equality of lists. -/
namespace Go.Proofs.Ytncnojhbdkhcjaa
open Go.RowKit Go.Hw
set_option linter.unusedVariables false
set_option linter.unusedSimpArgs false

abbrev Sw := Int × Int × Int × Int
def sg4 (l : List Sw) (i : Nat) : Sw := l.getD i (0, 0, 0, 0)
def sCells (l : List Sw) : List Value := l.flatMap fun m => [.int .i64 m.1, .int .i64 m.2.1, .int .i64 m.2.2.1, .int .i64 m.2.2.2]
theorem sCells_snoc (l : List Sw) (m : Sw) : sCells (l ++ [m]) = sCells l ++ [.int .i64 m.1, .int .i64 m.2.1, .int .i64 m.2.2.1, .int .i64 m.2.2.2] := by simp [sCells]
theorem sCells_len (l : List Sw) : (sCells l).length = l.length * 4 := by
  induction l with
  | nil => rfl
  | cons a l ih => unfold sCells at *; rw [List.flatMap_cons, List.length_append, ih]; simp only [List.length_cons, List.length_nil]; omega
theorem sCells_at (l : List Sw) : ∀ i, i < l.length → (sCells l)[i * 4]? = some (.int .i64 (sg4 l i).1) ∧ (sCells l)[i * 4 + 1]? = some (.int .i64 (sg4 l i).2.1) ∧ (sCells l)[i * 4 + 2]? = some (.int .i64 (sg4 l i).2.2.1) ∧ (sCells l)[i * 4 + 3]? = some (.int .i64 (sg4 l i).2.2.2) := by
  induction l with
  | nil => intro i h; simp at h
  | cons a l ih =>
    intro i h
    cases i with
    | zero => exact ⟨rfl, rfl, rfl, rfl⟩
    | succ i =>
      have := ih i (by simpa using h)
      rw [show (i + 1) * 4 = i * 4 + 4 by omega, show i * 4 + 4 + 1 = i * 4 + 1 + 4 by omega, show i * 4 + 4 + 2 = i * 4 + 2 + 4 by omega, show i * 4 + 4 + 3 = i * 4 + 3 + 4 by omega]
      exact this
/-- swaps in memory -/
def SwR (S : Nat → Prop) (w : World) (v : Value) (l : List Sw) : Prop := SlR S w 4 v l.length (sCells l)
theorem SwR.cells {S : Nat → Prop} {w : World} {g off n cap : Nat} {l : List Sw} (h : SwR S w (.slice (some ⟨g, off, none⟩) n cap) l) {i : Nat} (hi : i < l.length) : w.cell? ⟨g, off + i * 4, none⟩ = some (.int .i64 (sg4 l i).1) ∧ w.cell? ⟨g, off + i * 4 + 1, none⟩ = some (.int .i64 (sg4 l i).2.1) ∧ w.cell? ⟨g, off + i * 4 + 2, none⟩ = some (.int .i64 (sg4 l i).2.2.1) ∧ w.cell? ⟨g, off + i * 4 + 3, none⟩ = some (.int .i64 (sg4 l i).2.2.2) := by
  have h0 := SlR.cellAt h rfl (j := i * 4) (by omega)
  have h1 := SlR.cellAt h rfl (j := i * 4 + 1) (by omega)
  have h2 := SlR.cellAt h rfl (j := i * 4 + 2) (by omega)
  have h3 := SlR.cellAt h rfl (j := i * 4 + 3) (by omega)
  obtain ⟨e0, e1, e2, e3⟩ := sCells_at l i hi
  rw [e0] at h0
  rw [e1] at h1
  rw [e2] at h2
  rw [e3] at h3
  exact ⟨h0, h1, h2, h3⟩
theorem SwR.shape {S : Nat → Prop} {w : World} {v : Value} {l : List Sw} (h : SwR S w v l) : ∃ a cap, v = .slice a l.length cap := SlR.shape h
theorem SwR.ext {S : Nat → Prop} {w w' : World} {v : Value} {l : List Sw} (h : SwR S w v l) (hu : Ext w w') : SwR S w' v l := SlR.kept h hu (fun _ _ h => h)
theorem SwR.at_ {S : Nat → Prop} {w : World} {a : Option Addr} {n cap : Nat} {l : List Sw} (h : SwR S w (.slice a n cap) l) (hl : 0 < l.length) : ∃ g off, a = some ⟨g, off, none⟩ := by
  obtain ⟨g, off, c, e, _⟩ := SlR.pos h hl
  injection e with e1 e2 e3
  exact ⟨g, off, e1⟩
theorem take_eq_step {α : Type} [DecidableEq α] (l m : List α) (z : α) (k : Nat) (h1 : k < l.length) (h2 : k < m.length) (h : l.take k = m.take k) : (l.getD k z = m.getD k z → l.take (k + 1) = m.take (k + 1)) ∧ (l.getD k z ≠ m.getD k z → l ≠ m) := by
  rw [List.take_add_one, List.take_add_one, List.getElem?_eq_getElem h1, List.getElem?_eq_getElem h2, List.getD_eq_getElem?_getD, List.getD_eq_getElem?_getD, List.getElem?_eq_getElem h1, List.getElem?_eq_getElem h2, h]
  exact ⟨fun e => by simp at e; rw [e], fun e e2 => e (by subst e2; rfl)⟩

set_option maxHeartbeats 1000000 in
theorem eqm_x (l m : List Mo) (S T : Nat → Prop) (v u : Value) (w : World) (hR : MoR S w v l) (hQ : MoR T w u m) (hl : l.length ≤ 4611686018427387904) (hl2 : m.length ≤ 4611686018427387904) : Calls Try.prog 28 #[v, u] w fun e w' => e = .returned (.bool (decide (l = m))) ∧ Ext w w' := by
  obtain ⟨a, cap, rfl⟩ := hR.shape
  obtain ⟨b, cap2, rfl⟩ := hQ.shape
  have hrf := Lib.hid (Upd.refl (fun _ => False) w)
  generalize hz : decide (l = m) = Z
  have HZ := Lib.hid hz
  clear hz
  by_cases hlen : l.length = m.length
  · have t0 : ((l.length : Int) != (m.length : Int)) = false := by simp [hlen]
    go_enter Try.func28, Try.ntmps28
    go_wp2_with fail
    go_loopg [13] l.length (fun gk i wr => ∃ j : Nat, i = .int .i64 j ∧ gk = l.length - j ∧ j ≤ l.length ∧ Hid (Ext w wr) ∧ Hid (l.take j = m.take j))
    case atStart => exact ⟨0, rfl, rfl, Nat.zero_le _, hrf, Lib.hid rfl⟩
    case round =>
      obtain ⟨j, rfl, rfl, hj, HE, HM⟩ := hrel
      by_cases hlt : j < l.length
      · have hlt2 : j < m.length := by omega
        obtain ⟨g, off, rfl⟩ := hR.at_ (by omega)
        obtain ⟨g2, off2, rfl⟩ := hQ.at_ (by omega)
        obtain ⟨a0, a1⟩ := (hR.ext HE.out).cells hlt
        obtain ⟨b0, b1⟩ := (hQ.ext HE.out).cells hlt2
        have i0 : (0 : Int) ≤ (j : Int) := by omega
        have i1 : (j : Int) < (l.length : Int) := by omega
        have i2 : (j : Int) < (m.length : Int) := by omega
        have HN := Lib.hid (show ((mg l j).1 = (mg m j).1 ∧ (mg l j).2 = (mg m j).2 → l.take (j + 1) = m.take (j + 1)) ∧ (¬ ((mg l j).1 = (mg m j).1 ∧ (mg l j).2 = (mg m j).2) → l ≠ m) from ⟨fun h => (take_eq_step l m _ j hlt hlt2 HM.out).1 (Prod.ext h.1 h.2), fun h => (take_eq_step l m _ j hlt hlt2 HM.out).2 (fun h => by rename_i hn; exact hn ⟨congrArg (·.1) h, congrArg (·.2) h⟩)⟩)
        clear hR hQ t0
        generalize (mg l j).1 = p0 at *
        generalize (mg l j).2 = p1 at *
        generalize (mg m j).1 = q0 at *
        generalize (mg m j).2 = q1 at *
        have HEQ := Lib.hid (fun W : World => eqM p0 p1 q0 q1 W)
        generalize hc : (p0 == q0 && p1 == q1) = C at HEQ
        have HC : Hid (C = true ↔ p0 = q0 ∧ p1 = q1) := Lib.hid (by rw [← hc]; simp)
        clear hc
        have heq := HEQ.out
        cases C
        · have hZ : Z = false := by rw [← HZ.out]; exact decide_eq_false (HN.out.2 (fun h => by have := HC.out.2 h; cases this))
          subst hZ
          clear HN HC HEQ
          go_wp2_with fail
          go_quiet (fail)
          go_wp2_with fail
          go_ret
          exact ⟨rfl, ⟨HE.out.os, HE.out.tape, HE.out.output, HE.out.size, HE.out.block⟩⟩
        · have HN2 := Lib.hid (HN.out.1 (HC.out.1 rfl))
          clear HN HC HEQ
          go_wp2_with fail
          go_quiet (fail)
          go_wp2_with fail
          go_roundg (l.length - (j + 1))
          case measure => omega
          case rel => exact ⟨j + 1, by go_num, rfl, by omega, Lib.hid ⟨HE.out.os, HE.out.tape, HE.out.output, HE.out.size, HE.out.block⟩, HN2⟩
      · obtain rfl : j = l.length := by omega
        have hZ : Z = true := by
          rw [← HZ.out]
          have := HM.out
          rw [List.take_length, List.take_of_length_le (by omega)] at this
          exact decide_eq_true this
        subst hZ
        clear hR hQ t0
        go_wp2_with fail
        go_ret
        exact ⟨rfl, HE.out⟩
  · have t0 : ((l.length : Int) != (m.length : Int)) = true := by simp; omega
    have hZ : Z = false := by rw [← HZ.out]; exact decide_eq_false (fun e => hlen (by rw [e]))
    subst hZ
    clear hR hQ
    go_enter Try.func28, Try.ntmps28
    go_wp2_with fail
    go_ret
    exact ⟨rfl, hrf.out⟩

set_option maxHeartbeats 1000000 in
theorem same_x (l m : List Sw) (S T : Nat → Prop) (v u : Value) (w : World) (hR : SwR S w v l) (hQ : SwR T w u m) (hl : l.length ≤ 4611686018427387904) (hl2 : m.length ≤ 4611686018427387904) : Calls Try.prog 26 #[v, u] w fun e w' => e = .returned (.bool (decide (l = m))) ∧ Ext w w' := by
  obtain ⟨a, cap, rfl⟩ := hR.shape
  obtain ⟨b, cap2, rfl⟩ := hQ.shape
  have hrf := Lib.hid (Upd.refl (fun _ => False) w)
  generalize hz : decide (l = m) = Z
  have HZ := Lib.hid hz
  clear hz
  by_cases hlen : l.length = m.length
  · have t0 : ((l.length : Int) != (m.length : Int)) = false := by simp [hlen]
    go_enter Try.func26, Try.ntmps26
    go_wp2_with fail
    go_loopg [5] l.length (fun gk i wr => ∃ j : Nat, i = .int .i64 j ∧ gk = l.length - j ∧ j ≤ l.length ∧ Hid (Ext w wr) ∧ Hid (l.take j = m.take j))
    case atStart => exact ⟨0, rfl, rfl, Nat.zero_le _, hrf, Lib.hid rfl⟩
    case round =>
      obtain ⟨j, rfl, rfl, hj, HE, HM⟩ := hrel
      by_cases hlt : j < l.length
      · have hlt2 : j < m.length := by omega
        obtain ⟨g, off, rfl⟩ := hR.at_ (by omega)
        obtain ⟨g2, off2, rfl⟩ := hQ.at_ (by omega)
        obtain ⟨a0, a1, a2, a3⟩ := (hR.ext HE.out).cells hlt
        obtain ⟨b0, b1, b2, b3⟩ := (hQ.ext HE.out).cells hlt2
        have i0 : (0 : Int) ≤ (j : Int) := by omega
        have i1 : (j : Int) < (l.length : Int) := by omega
        have i2 : (j : Int) < (m.length : Int) := by omega
        have HN := Lib.hid (show (((sg4 l j).1 = (sg4 m j).1 ∧ (sg4 l j).2.1 = (sg4 m j).2.1) ∧ ((sg4 l j).2.2.1 = (sg4 m j).2.2.1 ∧ (sg4 l j).2.2.2 = (sg4 m j).2.2.2) → l.take (j + 1) = m.take (j + 1)) ∧ (¬ (((sg4 l j).1 = (sg4 m j).1 ∧ (sg4 l j).2.1 = (sg4 m j).2.1) ∧ ((sg4 l j).2.2.1 = (sg4 m j).2.2.1 ∧ (sg4 l j).2.2.2 = (sg4 m j).2.2.2)) → l ≠ m) from ⟨fun h => (take_eq_step l m _ j hlt hlt2 HM.out).1 (Prod.ext h.1.1 (Prod.ext h.1.2 (Prod.ext h.2.1 h.2.2))), fun h => (take_eq_step l m _ j hlt hlt2 HM.out).2 (fun h => by rename_i hn; exact hn ⟨⟨congrArg (·.1) h, congrArg (·.2.1) h⟩, ⟨congrArg (·.2.2.1) h, congrArg (·.2.2.2) h⟩⟩)⟩)
        clear hR hQ t0
        generalize (sg4 l j).1 = p0 at *
        generalize (sg4 l j).2.1 = p1 at *
        generalize (sg4 l j).2.2.1 = p2 at *
        generalize (sg4 l j).2.2.2 = p3 at *
        generalize (sg4 m j).1 = q0 at *
        generalize (sg4 m j).2.1 = q1 at *
        generalize (sg4 m j).2.2.1 = q2 at *
        generalize (sg4 m j).2.2.2 = q3 at *
        have HEQ := Lib.hid (fun W : World => eqS p0 p1 p2 p3 q0 q1 q2 q3 W)
        generalize hc : ((p0 == q0 && p1 == q1) && (p2 == q2 && p3 == q3)) = C at HEQ
        have HC : Hid (C = true ↔ (p0 = q0 ∧ p1 = q1) ∧ (p2 = q2 ∧ p3 = q3)) := Lib.hid (by rw [← hc]; simp)
        clear hc
        have heq := HEQ.out
        cases C
        · have hZ : Z = false := by rw [← HZ.out]; exact decide_eq_false (HN.out.2 (fun h => by have := HC.out.2 h; cases this))
          subst hZ
          clear HN HC HEQ
          go_wp2_with fail
          go_quiet (fail)
          go_wp2_with fail
          go_ret
          exact ⟨rfl, ⟨HE.out.os, HE.out.tape, HE.out.output, HE.out.size, HE.out.block⟩⟩
        · have HN2 := Lib.hid (HN.out.1 (HC.out.1 rfl))
          clear HN HC HEQ
          go_wp2_with fail
          go_quiet (fail)
          go_wp2_with fail
          go_roundg (l.length - (j + 1))
          case measure => omega
          case rel => exact ⟨j + 1, by go_num, rfl, by omega, Lib.hid ⟨HE.out.os, HE.out.tape, HE.out.output, HE.out.size, HE.out.block⟩, HN2⟩
      · obtain rfl : j = l.length := by omega
        have hZ : Z = true := by
          rw [← HZ.out]
          have := HM.out
          rw [List.take_length, List.take_of_length_le (by omega)] at this
          exact decide_eq_true this
        subst hZ
        clear hR hQ t0
        go_wp2_with fail
        go_ret
        exact ⟨rfl, HE.out⟩
  · have t0 : ((l.length : Int) != (m.length : Int)) = true := by simp; omega
    have hZ : Z = false := by rw [← HZ.out]; exact decide_eq_false (fun e => hlen (by rw [e]))
    subst hZ
    clear hR hQ
    go_enter Try.func26, Try.ntmps26
    go_wp2_with fail
    go_ret
    exact ⟨rfl, hrf.out⟩

end Go.Proofs.Ytncnojhbdkhcjaa

/- Certificates and swaps. -/
namespace Go.Proofs.Ytncnojhbdkhcjaa
open Go.RowKit Go.Hw
set_option linter.unusedVariables false
set_option linter.unusedSimpArgs false

/-- the certificate of the neighbours i and i + 1 -/
def certAt (l : List Mo) (n d : Int) (i : Nat) : Option Sw :=
  if meetB (mg l ((ordF l n d).getD i 0)) (mg l ((ordF l n d).getD (i + 1) 0)) n d then
    some (mtN (mg l ((ordF l n d).getD i 0)) (mg l ((ordF l n d).getD (i + 1) 0)), mtD (mg l ((ordF l n d).getD i 0)) (mg l ((ordF l n d).getD (i + 1) 0)), ((ordF l n d).getD i 0 : Nat), ((ordF l n d).getD (i + 1) 0 : Nat))
  else none
def certP (l : List Mo) (n d : Int) (k : Nat) : List Sw := (List.range k).filterMap (certAt l n d)
def certF (l : List Mo) (n d : Int) : List Sw := certP l n d (l.length - 1)
theorem certP_yes (l : List Mo) (n d : Int) (k : Nat) (x : Sw) (h : certAt l n d k = some x) : certP l n d (k + 1) = certP l n d k ++ [x] := by
  unfold certP
  rw [List.range_succ, List.filterMap_append]
  simp [h]
theorem certP_no (l : List Mo) (n d : Int) (k : Nat) (h : certAt l n d k = none) : certP l n d (k + 1) = certP l n d k := by
  unfold certP
  rw [List.range_succ, List.filterMap_append]
  simp [h]
/-- swapped between two times -/
def isSw (l : List Mo) (n d m e : Int) (a b : Nat) : Bool := lessK l n d a b && !(lessK l m e a b)
def sw (l : List Mo) (a b : Nat) : Sw := (mtN (mg l a) (mg l b), mtD (mg l a) (mg l b), (a : Int), (b : Int))
/-- before another swap -/
def earl (x y : Sw) : Bool :=
  if x.1 * y.2.1 = y.1 * x.2.1 then (if x.2.2.1 = y.2.2.1 then decide (x.2.2.2 < y.2.2.2) else decide (x.2.2.1 < y.2.2.1)) else decide (x.1 * y.2.1 < y.1 * x.2.1)
/-- two points that swap have met by then, and not before -/
theorem sw_meets {l : List Mo} {n d m e : Int} {a b : Nat} (hd : 1 ≤ d) (he : 1 ≤ e) (hn : 0 ≤ n) (hle : n * e ≤ m * d) (h : isSw l n d m e a b = true) : (mg l a).2 > (mg l b).2 := by
  unfold isSw at h
  rw [Bool.and_eq_true, Bool.not_eq_true'] at h
  obtain ⟨h1, h2⟩ := h
  rw [lessK_iff] at h1
  rw [← Bool.not_eq_true, lessK_iff] at h2
  unfold ps at h1 h2
  generalize (mg l a).1 = x at *
  generalize (mg l a).2 = u at *
  generalize (mg l b).1 = y at *
  generalize (mg l b).2 = v at *
  by_cases huv : v < u
  · exact huv
  · exfalso
    have k1 : (x * d + u * n) ≤ (y * d + v * n) := by omega
    have k2 : ¬ (x * e + u * m < y * e + v * m) := fun h => h2 (.inl h)
    have q : (v - u) * (n * e) ≤ (v - u) * (m * d) := Int.mul_le_mul_of_nonneg_left hle (by omega)
    have k3 : (x * d + u * n) * e ≤ (y * d + v * n) * e := Int.mul_le_mul_of_nonneg_right k1 (by omega)
    have k4 : (y * e + v * m) * d ≤ (x * e + u * m) * d := Int.mul_le_mul_of_nonneg_right (by omega) (by omega)
    have e1 : (x * d + u * n) * e = x * (d * e) + u * (n * e) := by grind
    have e2 : (y * d + v * n) * e = y * (d * e) + v * (n * e) := by grind
    have e3 : (y * e + v * m) * d = y * (d * e) + v * (m * d) := by grind
    have e4 : (x * e + u * m) * d = x * (d * e) + u * (m * d) := by grind
    have e5 : (v - u) * (n * e) = v * (n * e) - u * (n * e) := by grind
    have e6 : (v - u) * (m * d) = v * (m * d) - u * (m * d) := by grind
    have z1 : (x * d + u * n) * e = (y * d + v * n) * e := by omega
    have z2 : (x * e + u * m) * d = (y * e + v * m) * d := by omega
    have z3 := Int.eq_of_mul_eq_mul_right (by omega) z1
    have z4 := Int.eq_of_mul_eq_mul_right (by omega) z2
    clear e1 e2 e3 e4 e5 e6 z1 z2 k1 k2 k3 k4 q hle
    omega
theorem mtD_pos {a b : Mo} (h : a.2 - b.2 ≠ 0) : 0 < mtD a b := by
  unfold mtD
  have := aD_pos (num := b.1 - a.1) (show a.2 - b.2 ≠ 0 from h)
  omega
theorem mt_lt {a b : Mo} (h : b.2 < a.2) (p q : Int) : p * mtD a b < mtN a b * q ↔ (a.2 - b.2) * p < (b.1 - a.1) * q := by
  have hD := mtD_pos (a := a) (b := b) (show a.2 - b.2 ≠ 0 by omega)
  have hc : mtN a b * (a.2 - b.2) = (b.1 - a.1) * mtD a b := cross (b.1 - a.1) (a.2 - b.2)
  have hu : 0 < a.2 - b.2 := by omega
  generalize mtN a b = X at *
  generalize mtD a b = Y at *
  generalize a.2 - b.2 = U at *
  generalize b.1 - a.1 = V at *
  constructor
  · intro h1
    have h2 := Int.mul_lt_mul_of_pos_right h1 hu
    have e1 : p * Y * U = Y * (U * p) := by grind
    have e2 : X * q * U = Y * (V * q) := by grind
    rw [e1, e2] at h2
    exact Int.lt_of_mul_lt_mul_left h2 (by omega)
  · intro h1
    have h2 := Int.mul_lt_mul_of_pos_left h1 hD
    have e1 : p * Y * U = Y * (U * p) := by grind
    have e2 : X * q * U = Y * (V * q) := by grind
    rw [← e1, ← e2] at h2
    exact Int.lt_of_mul_lt_mul_right h2 (by omega)
/-- what swaps has met behind the first time, and by the second -/
theorem sw_time {l : List Mo} {n d m e : Int} {a b : Nat} (hd : 1 ≤ d) (he : 1 ≤ e) (hn : 0 ≤ n) (hle : n * e ≤ m * d) (h : isSw l n d m e a b = true) :
    meetB (mg l a) (mg l b) n d = true ∧ ¬ m * mtD (mg l a) (mg l b) < mtN (mg l a) (mg l b) * e := by
  have hs := sw_meets hd he hn hle h
  unfold isSw at h
  rw [Bool.and_eq_true, Bool.not_eq_true'] at h
  obtain ⟨h1, h2⟩ := h
  rw [lessK_iff] at h1
  rw [← Bool.not_eq_true, lessK_iff] at h2
  unfold ps at h1 h2
  refine ⟨?_, ?_⟩
  · unfold meetB
    rw [beq_eq_false_iff_ne.2 (by omega), Bool.not_false, Bool.true_and, decide_eq_true_eq, mt_lt hs]
    have e1 : ((mg l a).2 - (mg l b).2) * n = (mg l a).2 * n - (mg l b).2 * n := by grind
    have e2 : ((mg l b).1 - (mg l a).1) * d = (mg l b).1 * d - (mg l a).1 * d := by grind
    omega
  · rw [mt_lt hs]
    have e1 : ((mg l a).2 - (mg l b).2) * m = (mg l a).2 * m - (mg l b).2 * m := by grind
    have e2 : ((mg l b).1 - (mg l a).1) * e = (mg l b).1 * e - (mg l a).1 * e := by grind
    omega

end Go.Proofs.Ytncnojhbdkhcjaa

/- The order of swaps. -/
namespace Go.Proofs.Ytncnojhbdkhcjaa
open Go.RowKit Go.Hw
set_option linter.unusedVariables false
set_option linter.unusedSimpArgs false

theorem earl_iff (x y : Sw) : earl x y = true ↔ x.1 * y.2.1 < y.1 * x.2.1 ∨ (x.1 * y.2.1 = y.1 * x.2.1 ∧ (x.2.2.1 < y.2.2.1 ∨ (x.2.2.1 = y.2.2.1 ∧ x.2.2.2 < y.2.2.2))) := by
  unfold earl
  split
  · rename_i h
    split
    · rw [decide_eq_true_eq]; omega
    · rw [decide_eq_true_eq]; omega
  · rw [decide_eq_true_eq]; omega
/-- fractions with denominators above zero: comparison is transitive -/
theorem fr_lt_trans {a b c d e f : Int} (hb : 0 < b) (hd : 0 < d) (hf : 0 < f) (h1 : a * d ≤ c * b) (h2 : c * f ≤ e * d) : a * f ≤ e * b ∧ (a * f = e * b → a * d = c * b ∧ c * f = e * d) := by
  have k1 : a * d * f ≤ c * b * f := Int.mul_le_mul_of_nonneg_right h1 (by omega)
  have k2 : c * f * b ≤ e * d * b := Int.mul_le_mul_of_nonneg_right h2 (by omega)
  have e1 : a * d * f = d * (a * f) := by grind
  have e2 : e * d * b = d * (e * b) := by grind
  have e3 : c * b * f = c * f * b := by grind
  have k3 : d * (a * f) ≤ d * (e * b) := by omega
  refine ⟨Int.le_of_mul_le_mul_left k3 hd, fun h => ?_⟩
  have k4 : d * (a * f) = d * (e * b) := by rw [h]
  have k5 : a * d * f = c * b * f := by omega
  have k6 : c * f * b = e * d * b := by omega
  exact ⟨Int.eq_of_mul_eq_mul_right (by omega) k5, Int.eq_of_mul_eq_mul_right (by omega) k6⟩
theorem earl_irrefl (x : Sw) : earl x x = false := by
  rw [← Bool.not_eq_true, earl_iff]
  omega
theorem earl_trans {x y z : Sw} (hx : 0 < x.2.1) (hy : 0 < y.2.1) (hz : 0 < z.2.1) (h1 : earl x y = true) (h2 : earl y z = true) : earl x z = true := by
  rw [earl_iff] at *
  have h := fr_lt_trans (a := x.1) (b := x.2.1) (c := y.1) (d := y.2.1) (e := z.1) (f := z.2.1) hx hy hz (by omega) (by omega)
  obtain ⟨k1, k2⟩ := h
  by_cases he : x.1 * z.2.1 = z.1 * x.2.1
  · have := k2 he
    omega
  · omega
theorem earl_asymm {x y : Sw} (h : earl x y = true) : earl y x = false := by
  rw [← Bool.not_eq_true, earl_iff]
  rw [earl_iff] at h
  omega
theorem earl_ntrans {x y z : Sw} (hx : 0 < x.2.1) (hy : 0 < y.2.1) (hz : 0 < z.2.1) (h1 : earl x y = false) (h2 : earl y z = false) : earl x z = false := by
  rw [← Bool.not_eq_true, earl_iff] at *
  have h := fr_lt_trans (a := z.1) (b := z.2.1) (c := y.1) (d := y.2.1) (e := x.1) (f := x.2.1) hz hy hx (by omega) (by omega)
  obtain ⟨k1, k2⟩ := h
  intro h3
  by_cases he : z.1 * x.2.1 = x.1 * z.2.1
  · have := k2 he
    omega
  · omega
theorem earl_tot (x y : Sw) (h : x.2.2 ≠ y.2.2) : earl x y = true ∨ earl y x = true := by
  rw [earl_iff, earl_iff]
  have : ¬ (x.2.2.1 = y.2.2.1 ∧ x.2.2.2 = y.2.2.2) := fun ⟨h1, h2⟩ => h (Prod.ext h1 h2)
  omega

end Go.Proofs.Ytncnojhbdkhcjaa

/- Heaps. -/
namespace Go.Proofs.Ytncnojhbdkhcjaa
open Go.RowKit Go.Hw
set_option linter.unusedVariables false
set_option linter.unusedSimpArgs false

section
variable {α : Type} (lt : α → α → Bool) (ok : α → Prop) (z : α)
/-- what a heap asks of its order -/
structure HOrd : Prop where
  asymm : ∀ {x y}, lt x y = true → lt y x = false
  nt : ∀ {x y v}, ok x → ok y → ok v → lt x y = false → lt y v = false → lt x v = false
def parH (k : Nat) : Nat := (k - 1) / 2
def swapL (L : List α) (i j : Nat) : List α := (L.set i (L.getD j z)).set j (L.getD i z)
theorem swapL_len (L : List α) (i j : Nat) : (swapL z L i j).length = L.length := by simp [swapL]
theorem swapL_get (L : List α) (i j k : Nat) (hi : i < L.length) (hj : j < L.length) : (swapL z L i j).getD k z = if k = j then L.getD i z else if k = i then L.getD j z else L.getD k z := by
  unfold swapL
  simp only [List.getD_eq_getElem?_getD, List.getElem?_set, List.length_set]
  by_cases h1 : j = k
  · subst h1; simp [hj]
  · rw [if_neg h1, if_neg (Ne.symm h1)]
    by_cases h2 : i = k
    · subst h2; simp [hi]
    · rw [if_neg h2, if_neg (Ne.symm h2)]
theorem swapL_perm (L : List α) (i j : Nat) (hi : i < L.length) (hj : j < L.length) : (swapL z L i j).Perm L := by
  have h := Array.swap_perm (xs := L.toArray) (i := i) (j := j) (by simpa using hi) (by simpa using hj)
  have h2 := Array.perm_iff_toList_perm.1 h
  have e : (L.toArray.swap i j (by simpa using hi) (by simpa using hj)).toList = swapL z L i j := by
    unfold swapL
    simp [Array.swap, List.getD_eq_getElem?_getD, List.getElem?_eq_getElem hi, List.getElem?_eq_getElem hj]
  rw [e] at h2
  exact h2
/-- a heap of the first n -/
def HeapN (n : Nat) (L : List α) : Prop := ∀ k, 1 ≤ k → k < n → lt (L.getD k z) (L.getD (parH k) z) = false
def HeapU (n : Nat) (L : List α) (j : Nat) : Prop := (∀ k, 1 ≤ k → k < n → k ≠ j → lt (L.getD k z) (L.getD (parH k) z) = false) ∧ ∀ k, 1 ≤ k → k < n → parH k = j → 1 ≤ j → lt (L.getD k z) (L.getD (parH j) z) = false
def HeapD (n : Nat) (L : List α) (i : Nat) : Prop := (∀ k, 1 ≤ k → k < n → parH k ≠ i → lt (L.getD k z) (L.getD (parH k) z) = false) ∧ ∀ k, 1 ≤ k → k < n → parH k = i → 1 ≤ i → lt (L.getD k z) (L.getD (parH i) z) = false
variable {lt ok z}
theorem heapU_zero {n : Nat} {L : List α} (h : HeapU lt z n L 0) : HeapN lt z n L := fun k h1 h2 => h.1 k h1 h2 (by omega)
theorem heapU_done {n j : Nat} {L : List α} (h : HeapU lt z n L j) (hl : lt (L.getD j z) (L.getD (parH j) z) = false) : HeapN lt z n L := fun k h1 h2 => by
  by_cases e : k = j
  · subst e; exact hl
  · exact h.1 k h1 h2 e
theorem heapU_step {n j : Nat} {L : List α} (H : HOrd lt ok) (hok : ∀ k, k < L.length → ok (L.getD k z)) (hn : n ≤ L.length) (h : HeapU lt z n L j) (h0 : 1 ≤ j) (hj : j < n) (hl : lt (L.getD j z) (L.getD (parH j) z) = true) :
    HeapU lt z n (swapL z L (parH j) j) (parH j) := by
  have hi : parH j < j := by unfold parH; omega
  generalize hp : parH j = i at *
  have G := fun k => swapL_get z L i j k (by omega) (by omega)
  have hij : lt (L.getD i z) (L.getD j z) = false := H.asymm hl
  refine ⟨fun k h1 h2 hk => ?_, fun k h1 h2 hk hi1 => ?_⟩
  · rw [G k, G (parH k)]
    by_cases e1 : k = j
    · subst e1
      rw [hp]
      rw [if_pos rfl, if_neg (by omega), if_pos rfl]
      exact hij
    · rw [if_neg e1, if_neg hk]
      by_cases e2 : parH k = j
      · rw [if_pos e2]
        have := h.2 k h1 h2 e2 h0
        rw [hp] at this
        exact this
      · rw [if_neg e2]
        have hh := h.1 k h1 h2 e1
        by_cases e3 : parH k = i
        · rw [if_pos e3]
          rw [e3] at hh
          exact H.nt (hok k (by omega)) (hok i (by omega)) (hok j (by omega)) hh hij
        · rw [if_neg e3]; exact hh
  · have hpi : parH i < i := by unfold parH; omega
    rw [G k, G (parH i), if_neg (show ¬ parH i = j by omega), if_neg (show ¬ parH i = i by omega)]
    have hii := h.1 i hi1 (by omega) (by omega)
    by_cases e1 : k = j
    · rw [if_pos e1]; exact hii
    · have hki : i < k := by
        have : parH k = i := hk
        unfold parH at this; omega
      rw [if_neg e1, if_neg (by omega)]
      have hh := h.1 k h1 h2 e1
      rw [hk] at hh
      exact H.nt (hok k (by omega)) (hok i (by omega)) (hok _ (by omega)) hh hii
theorem heapU_push {L : List α} (x : α) (h : HeapN lt z L.length L) : HeapU lt z (L.length + 1) (L ++ [x]) L.length := by
  have G : ∀ k, k < L.length → (L ++ [x]).getD k z = L.getD k z := fun k hk => by simp [List.getD_eq_getElem?_getD, List.getElem?_append_left hk]
  refine ⟨fun k h1 h2 hk => ?_, fun k h1 h2 hk h3 => ?_⟩
  · have : parH k < k := by unfold parH; omega
    rw [G k (by omega), G _ (by omega)]
    exact h k h1 (by omega)
  · exfalso
    have : parH k < k := by unfold parH; omega
    omega
/-- the child that comes first -/
theorem heapD_leaf {n i : Nat} {L : List α} (h : HeapD lt z n L i) (hn : n ≤ 2 * i + 1) : HeapN lt z n L := fun k h1 h2 => h.1 k h1 h2 (by unfold parH; omega)
def childH (lt : α → α → Bool) (z : α) (n : Nat) (L : List α) (i : Nat) : Nat := if 2 * i + 2 < n ∧ lt (L.getD (2 * i + 2) z) (L.getD (2 * i + 1) z) = true then 2 * i + 2 else 2 * i + 1
theorem childH_min {n i : Nat} {L : List α} (H : HOrd lt ok) (hok : ∀ k, k < L.length → ok (L.getD k z)) (hn : n ≤ L.length) (k : Nat) (h1 : 1 ≤ k) (h2 : k < n) (hk : parH k = i) : k = childH lt z n L i ∨ lt (L.getD k z) (L.getD (childH lt z n L i) z) = false := by
  have hk2 : k = 2 * i + 1 ∨ k = 2 * i + 2 := by unfold parH at hk; omega
  unfold childH
  split
  · rename_i hc
    rcases hk2 with e | e
    · right; rw [e]; exact H.asymm hc.2
    · left; exact e
  · rename_i hc
    rcases hk2 with e | e
    · left; exact e
    · right
      rw [e]
      rw [← Bool.not_eq_true]
      intro ht
      exact hc ⟨by omega, ht⟩
theorem heapD_done {n i : Nat} {L : List α} (H : HOrd lt ok) (hok : ∀ k, k < L.length → ok (L.getD k z)) (hn : n ≤ L.length) (h : HeapD lt z n L i) (hc : 2 * i + 1 < n) (hl : lt (L.getD (childH lt z n L i) z) (L.getD i z) = false) : HeapN lt z n L := fun k h1 h2 => by
  by_cases e : parH k = i
  · rw [e]
    have hcn : childH lt z n L i < n := by unfold childH; split <;> omega
    rcases childH_min H hok hn k h1 h2 e with h3 | h3
    · rw [h3]; exact hl
    · exact H.nt (hok _ (by omega)) (hok _ (by omega)) (hok _ (by omega)) h3 hl
  · exact h.1 k h1 h2 e
theorem heapD_step {n i : Nat} {L : List α} (H : HOrd lt ok) (hok : ∀ k, k < L.length → ok (L.getD k z)) (hn : n ≤ L.length) (h : HeapD lt z n L i) (hc : 2 * i + 1 < n) (hl : lt (L.getD (childH lt z n L i) z) (L.getD i z) = true) :
    HeapD lt z n (swapL z L i (childH lt z n L i)) (childH lt z n L i) := by
  have hcn : childH lt z n L i < n := by unfold childH; split <;> omega
  have hpc : parH (childH lt z n L i) = i := by unfold childH parH; split <;> omega
  have hci : i < childH lt z n L i := by unfold childH; split <;> omega
  have hmin := fun k h1 h2 hk => childH_min (z := z) (i := i) H hok hn k h1 h2 hk
  generalize childH lt z n L i = j at *
  have G := fun k => swapL_get z L i j k (by omega) (by omega)
  refine ⟨fun k h1 h2 hk => ?_, fun k h1 h2 hk hi1 => ?_⟩
  · rw [G k, G (parH k), if_neg hk]
    by_cases e1 : k = j
    · rw [if_pos e1, e1, hpc, if_pos rfl]
      exact H.asymm hl
    · rw [if_neg e1]
      by_cases e2 : parH k = i
      · rw [if_pos e2]
        have hki : k ≠ i := by unfold parH at e2; omega
        rw [if_neg hki]
        rcases hmin k h1 h2 e2 with h3 | h3
        · exact absurd h3 e1
        · exact h3
      · rw [if_neg e2]
        by_cases e3 : k = i
        · rw [if_pos e3, e3]
          exact h.2 j (by omega) hcn hpc (by omega)
        · rw [if_neg e3]
          exact h.1 k h1 h2 e2
  · rw [hpc]
    have hkj : j < k := by unfold parH at hk; omega
    rw [G k, G i, if_neg (by omega), if_neg (by omega), if_neg (by omega), if_pos rfl]
    have := h.1 k h1 h2 (by omega)
    rw [hk] at this
    exact this
theorem heapD_pop {n : Nat} {L : List α} (hn : L.length = n + 1) (h : HeapN lt z (n + 1) L) : HeapD lt z n (swapL z L 0 n) 0 := by
  have G := fun k => swapL_get z L 0 n k (by omega) (by omega)
  refine ⟨fun k h1 h2 hk => ?_, fun k h1 h2 hk hi1 => by omega⟩
  have : parH k < k := by unfold parH; omega
  rw [G k, G (parH k), if_neg (by omega), if_neg (by omega), if_neg (by omega), if_neg hk]
  exact h k h1 (by omega)
/-- the first is the least -/
theorem heap_min {n : Nat} {L : List α} (H : HOrd lt ok) (hirr : ∀ x, lt x x = false) (hok : ∀ k, k < L.length → ok (L.getD k z)) (hn : n ≤ L.length) (h : HeapN lt z n L) : ∀ k, k < n → lt (L.getD k z) (L.getD 0 z) = false := by
  intro k
  induction k using Nat.strongRecOn with
  | _ k ih =>
    intro hk
    by_cases e : k = 0
    · subst e; exact hirr _
    · have hp : parH k < k := by unfold parH; omega
      exact H.nt (hok _ (by omega)) (hok _ (by omega)) (hok _ (by omega)) (h k (by omega) hk) (ih _ hp (by omega))
theorem heap_take {n : Nat} {L : List α} (hn : n ≤ L.length) (h : HeapN lt z n L) : HeapN lt z n (L.take n) := fun k h1 h2 => by
  have hp : parH k < k := by unfold parH; omega
  have G : ∀ j, j < n → (L.take n).getD j z = L.getD j z := fun j hj => by simp [List.getD_eq_getElem?_getD, List.getElem?_take_of_lt hj]
  rw [G k h2, G _ (by omega)]
  exact h k h1 h2
theorem heap_nil : HeapN lt z 0 ([] : List α) := fun k h1 h2 => by omega
end

end Go.Proofs.Ytncnojhbdkhcjaa
