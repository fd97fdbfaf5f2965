/- The walk of a script, with the list and its reference side by side. -/
import Derived.Test.YtnlminaanccejaaW11
import Derived.Test.YtnlminaanccejaaP5
namespace Go.Proofs.Ytnlminaanccejaa
open Go.RowKit Go.Hw
set_option linter.unusedVariables false
set_option linter.unusedSimpArgs false

abbrev St := Bool × Int
def St.cells (s : St) : List Value := [.bool s.1, .int .i64 s.2]
def stCells (l : List St) : List Value := (l.map St.cells).flatten
theorem stCells_length (l : List St) : (stCells l).length = l.length * 2 := by
  induction l with
  | nil => rfl
  | cons e l ih => simp only [stCells, List.map_cons, List.flatten_cons, List.length_append, List.length_cons] at ih ⊢; simp only [St.cells, List.length_cons, List.length_nil]; omega
theorem stCells_get (l : List St) (i j : Nat) (h : i < l.length) (hj : j < 2) : (stCells l)[i * 2 + j]? = (St.cells (l.getD i (false, 0)))[j]? := by
  induction l generalizing i with
  | nil => simp at h
  | cons e l ih =>
    simp only [stCells, List.map_cons, List.flatten_cons]
    cases i with
    | zero => rw [List.getElem?_append_left (by simp [St.cells]; omega)]; simp
    | succ i =>
      rw [List.getElem?_append_right (by simp [St.cells]; omega)]
      have : (i + 1) * 2 + j - (St.cells e).length = i * 2 + j := by simp [St.cells]; omega
      rw [this]
      have := ih i (by simpa using h)
      simp only [stCells] at this
      rw [this]; simp

/-- the list at block b, the reference's list in the variable at block m -/
structure JR (W : World) (b m : Nat) (M : LM) (v sl : Value) (xs : List Nat) (n : Int) (S : Nat → Prop) (w : World) : Prop where
  rep : LRep W.heap.size w b v M
  cell : w.heap[m]? = some (.cells #[sl, .int .i64 n] 27 (0, 0))
  ls : LsR S w sl xs
  slt : ∀ k, S k → k < w.heap.size
  sm : ∀ k, S k → k ≠ m
  so : ∀ k, S k → ¬ own b v k
  om : ¬ own b v m
  mb : W.heap.size ≤ m
  ext : Ext W w

section
variable {W : World} {b m : Nat} {M M' : LM} {v v' sl sl' : Value} {xs xs' : List Nat} {n n' : Int} {S : Nat → Prop} {w w' : World}
theorem JR.ext' (h : JR W b m M v sl xs n S w) (hu : Ext w w') : JR W b m M v sl xs n S w' :=
  ⟨h.rep.kept hu (fun _ _ h => h), hu.heap h.cell (fun h => h), h.ls.kept hu (fun _ _ h => h), fun k hk => by have := h.slt k hk; have := hu.size; omega, h.sm, h.so, h.om, h.mb, h.ext.ext hu⟩
theorem JR.mlt (h : JR W b m M v sl xs n S w) : m < w.heap.size := (Array.getElem?_eq_some_iff.1 h.cell).1
theorem JR.ownW (h : JR W b m M v sl xs n S w) : ∀ k, own b v k → W.heap.size ≤ k := h.rep.ownsBase
/-- behind a method that writes -/
theorem JR.go (h : JR W b m M v sl xs n S w) (hw : Wrote W.heap.size b v M' w w' v') : JR W b m M' v' sl xs n S w' := by
  refine ⟨hw.rep, hw.upd.heap h.cell h.om, h.ls.kept hw.upd (fun k hk => h.so k hk), fun k hk => by have := h.slt k hk; have := hw.upd.size; omega, h.sm, ?_, ?_, h.mb, ?_⟩
  · intro k hk ho
    rcases hw.own k ho with h1 | h1
    · exact h.so k hk h1
    · have := h.slt k hk; omega
  · intro ho
    rcases hw.own m ho with h1 | h1
    · exact h.om h1
    · have := h.mlt; omega
  · exact h.ext.trans' hw.upd (fun k hk ho => by have := h.ownW k ho; omega)
/-- behind the reference's step: its result is put into the variable -/
theorem JR.put {S' : Nat → Prop} (h : JR W b m M v sl xs n S w) (hl : LsR S' w sl' xs') (h1 : ∀ k, S' k → k < w.heap.size ∧ k ≠ m ∧ ¬ own b v k) :
    JR W b m M v sl' xs' n' S' ((w.setCell ⟨m, 0, none⟩ sl').setCell ⟨m, 1, none⟩ (.int .i64 n')) := by
  have hu : Upd (fun k => k = m) w ((w.setCell ⟨m, 0, none⟩ sl').setCell ⟨m, 1, none⟩ (.int .i64 n')) := by exact ((Upd.refl (fun k => k = m) w).setCell (.inl (by rfl)) _).setCell (.inl (by rfl)) _
  refine ⟨h.rep.kept hu (fun k hk e => h.om (by rw [← e]; exact hk)), ?_, hl.kept hu (fun k hk e => (h1 k hk).2.1 e), fun k hk => by have := (h1 k hk).1; have := hu.size; omega, fun k hk => (h1 k hk).2.1, fun k hk => (h1 k hk).2.2, h.om, h.mb, h.ext.trans' hu (fun k hk e => by have := h.mb; omega)⟩
  rw [heap_setCell_same _ m 1 #[sl', .int .i64 n] 27 _ (by rw [heap_setCell_same w m 0 _ _ _ h.cell]; simp)]
  simp
theorem JR.c0 (h : JR W b m M v sl xs n S w) : w.cell? ⟨m, 0, none⟩ = some sl := by rw [cell_of_row w m 0 _ _ _ h.cell]; rfl
theorem JR.c1 (h : JR W b m M v sl xs n S w) : w.cell? ⟨m, 1, none⟩ = some (.int .i64 n) := by rw [cell_of_row w m 1 _ _ _ h.cell]; rfl
theorem JR.fz (h : JR W b m M v sl xs n S w) (j : Nat) : w.frozen? ⟨m, j, none⟩ = false := frozen_of_row w m j _ _ h.cell
end

/-- what a script leaves -/
def PL (len : Nat) (w : World) (e : Ending) (w' : World) : Prop :=
  ∃ (b : Nat) (v : Value) (M : LM) (ord : List Nat) (n : Nat) (sl : Value) (S : Nat → Prop),
    e = .returned (.tuple #[.pointer (some ⟨b, 0, none⟩), .agg #[sl, .int .i64 n], .bool true]) ∧ LRep w.heap.size w' b v M ∧ Good M ord n ∧ Pot M ord n ∧ n ≤ len ∧
    LsR S w' sl ord ∧ (∀ k, S k → k < w'.heap.size ∧ ¬ own b v k) ∧ Ext w w'

/-- the relation of the loop -/
def PR (W : World) (len k : Nat) (w : World) : Prop :=
  ∃ (v : Value) (M : LM) (ord : List Nat) (n : Nat) (sl : Value) (S : Nat → Prop), JR W (W.heap.size + 1) (W.heap.size + 2) M v sl ord n S w ∧ Good M ord n ∧ Pot M ord n ∧ n ≤ k ∧
    w.heap[W.heap.size]? = some (.cells #[.slice none 0 0, .int .i64 0] 27 (0, 0)) ∧ (∀ k, S k → k ≠ W.heap.size) ∧ ¬ own (W.heap.size + 1) v W.heap.size

theorem insN_le (ord : List Nat) (n : Nat) (x : Int) : insN ord n x ≤ n + 1 := by
  unfold insN; split
  · omega
  · split <;> omega

set_option maxRecDepth 100000 in
set_option maxHeartbeats 2000000 in
theorem play_any (v0 : Value) (steps : List St) (w : World) (h : SlR (fun k => k < w.heap.size) w 2 v0 steps.length (stCells steps)) (hl : steps.length ≤ 1000000) :
    Calls Try.prog 10 #[v0] w (PL steps.length w) := by
  obtain ⟨a0, cap0, hv⟩ := h.shape
  subst hv
  have hk := Lib.hid h
  clear h
  go_enter Try.func10, Try.ntmps10
  go_wp2_with fail
  refine (new_any _).mono ?_
  rintro e w1 ⟨rfl, hw1⟩
  have hsz : (w.alloc (.cells #[.slice none 0 0, .int .i64 0] 27)).heap.size = w.heap.size + 1 := by simp
  have hrep : LRep w.heap.size w1 (w.heap.size + 1) (.slice none 0 0) ⟨[], -1, -1, 0, 0⟩ := by
    have := new_rep w.heap.size (w.alloc (.cells #[.slice none 0 0, .int .i64 0] 27)) (by omega)
    rw [← hw1, hsz] at this; exact this
  have hs1 : w1.heap.size = w.heap.size + 2 := by rw [hw1]; simp
  have hR : w1.heap[w.heap.size]? = some (.cells #[.slice none 0 0, .int .i64 0] 27) := by rw [hw1]; exact allocOld (alloc0 _ _) _
  have hE : Ext w w1 := by rw [hw1]; exact ((Upd.refl _ w).alloc _).alloc _
  have P0 : PR w steps.length 0 (w1.alloc (.cells #[.slice none 0 0, .int .i64 0] 27)) := by
    have hm : w.heap.size + 2 = w1.heap.size := hs1.symm
    refine ⟨.slice none 0 0, ⟨[], -1, -1, 0, 0⟩, [], 0, .slice none 0 0, fun _ => False, ⟨hrep.kept ((Upd.refl (fun _ => False) w1).alloc _) (fun _ _ h => h), ?_, SlR.nil _ _ _, fun k h => h.elim, fun k h => h.elim, fun k h => h.elim, ?_, by omega, hE.alloc _⟩, Good.new, Pot.new, Nat.le_refl _, allocOld hR _, fun k h => h.elim, ?_⟩
    · exact alloc_at _ _ hm
    · rintro (h | h)
      · omega
      · simp [Value.ownBlock] at h
    · rintro (h | h)
      · omega
      · simp [Value.ownBlock] at h
  have HP0 := Lib.hid P0
  rw [hsz]
  have Hw1 : Hid (w1.heap.size = w.heap.size + 2) := hs1
  clear hw1 hrep hR hE P0 hsz
  go_wp2_with fail
  go_loopg [24] steps.length (fun gk i wr => ∃ k : Nat, i = .int .i64 k ∧ gk = steps.length - k ∧ k ≤ steps.length ∧ Hid (PR w steps.length k wr))
  case atStart => exact ⟨0, rfl, rfl, Nat.zero_le _, HP0.out⟩
  case round =>
    obtain ⟨k, rfl, rfl, hkl, HPR⟩ := hrel
    obtain ⟨v, M, ord, n, sl, S, J, hG, hP, hnk, hR1, hR2, hR3⟩ := HPR.out
    obtain ⟨a, cap1, hv⟩ := J.ls.shape
    subst hv
    generalize hcap2 : ord.length = cap2 at *
    have Hcap2 := Lib.hid hcap2
    clear HPR HP0 hs1 Hw1 hcap2
    by_cases hlt : k < steps.length
    · obtain ⟨g, off, cap, hv, hc, hg, hj⟩ := hk.out.pos (by omega)
      injection hv with e1 e2 e3
      subst e1; subst e3
      have hel : ∀ j, j < 2 → wr.cell? ⟨g, off + (k * 2 + j), none⟩ = (St.cells (steps.getD k (false, 0)))[j]? := by
        intro j hj2
        have h1 := hj (k * 2 + j) (by omega)
        rw [stCells_get steps k j hlt hj2] at h1
        rw [← h1]
        exact World.cell?_of_block (w := w) (J.ext.block g hg (fun h => h))
      generalize steps.getD k (false, 0) = s at *
      obtain ⟨d, x⟩ := s
      have e0 : wr.cell? ⟨g, off + k * 2, none⟩ = some (.bool d) := hel 0 (by omega)
      have e1 : wr.cell? ⟨g, off + k * 2 + 1, none⟩ = some (.int .i64 x) := hel 1 (by omega)
      clear hj
      have i0 : (0 : Int) ≤ (k : Int) := by omega
      have i1 : (k : Int) < (steps.length : Int) := by omega
      cases d with
      | true =>
        have hg2 := hG
        have J1 : JR w (w.heap.size + 1) (w.heap.size + 2) M v (.slice a cap2 cap1) ord n S (wr.alloc (.cells #[.bool true, .int .i64 x] 43)) := J.ext' ((Upd.refl _ wr).alloc _)
        have HJ1 := Lib.hid J1
        have hRx : Hid (wr.heap[w.heap.size]? = some (.cells #[.slice none 0 0, .int .i64 0] 27 (0, 0)) ∧ (∀ k, S k → k ≠ w.heap.size) ∧ ¬ own (w.heap.size + 1) v w.heap.size) := ⟨hR1, hR2, hR3⟩
        have HG := Lib.hid hG
        have HP := Lib.hid hP
        have HJ := Lib.hid J
        have hown := J.rep.ownsLt
        have Hown := Lib.hid hown
        have hmlt : w.heap.size + 2 < wr.heap.size := J.mlt
        clear J J1 hG hP hR1 hR2 hR3 hg2 hown hel
        go_wp2_with fail
        refine (del_step w.heap.size (w.heap.size + 1) v M ord n x _ HJ1.out.rep HG.out).mono ?_
        rintro e w2 ⟨rfl, v', hW⟩
        have hG' := HG.out.del x
        have hP' := HP.out.del HG.out x
        have HG' := Lib.hid hG'
        have HP' := Lib.hid hP'
        have J2 := HJ1.out.go hW
        have HJ2 := Lib.hid J2
        have c0 := J2.c0
        have c1 := J2.c1
        have hsb : w2.heap[wr.heap.size]? = some (.cells #[.bool true, .int .i64 x] 43) := hW.upd.heap (alloc0 _ _) (fun ho => by have := Hown.out _ ho; omega)
        have s1 : w2.cell? ⟨wr.heap.size, 1, none⟩ = some (.int .i64 x) := by rw [cell_of_row w2 _ 1 _ _ _ hsb]; rfl
        have hR' : Hid (w2.heap[w.heap.size]? = some (.cells #[.slice none 0 0, .int .i64 0] 27 (0, 0)) ∧ ¬ own (w.heap.size + 1) v' w.heap.size) := by
          refine ⟨hW.upd.heap (allocOld hRx.out.1 _) hRx.out.2.2, fun ho => ?_⟩
          rcases hW.own _ ho with h1 | h1
          · exact hRx.out.2.2 h1
          · simp at h1; omega
        have hsz2 : wr.heap.size + 1 ≤ w2.heap.size := by have := hW.upd.size; simpa using this
        clear hG' hP' hW J2 hsb
        generalize hr1 : delRes ord x = r1 at *
        have Hr := Lib.hid hr1
        clear hr1
        go_wp2_with fail
        refine (rdel_step S (.slice a cap2 cap1) ord n x w2 HJ2.out.ls HJ2.out.slt (by have := HG.out.inv.ordLen; have := HG.out.inv.len; omega)).mono ?_
        rintro e w3 ⟨sl', rfl, hls, hE3⟩
        rw [Hr.out]
        obtain ⟨a3, cap3, hv3⟩ := hls.shape
        subst hv3
        generalize hlen3 : (delOrd ord x).length = L3 at *
        have Hlen3 := Lib.hid hlen3
        have J3 := HJ2.out.ext' hE3
        have HJ3 := Lib.hid J3
        have d0 := J3.c0
        have d1 := J3.c1
        have f0 := J3.fz 0
        have f1 := J3.fz 1
        have hm3 : w.heap.size + 2 < w3.heap.size := J3.mlt
        have Hls := Lib.hid hls
        have HE3 := Lib.hid hE3
        have hR3' : Hid (w3.heap[w.heap.size]? = some (.cells #[.slice none 0 0, .int .i64 0] 27 (0, 0))) := hE3.heap hR'.out.1 (fun h => h)
        clear J3 hls hE3 hlen3 c0 c1 s1
        have hfin : Hid (PR w steps.length (k + 1) (((w3.setCell ⟨w.heap.size + 2, 0, none⟩ (.slice a3 L3 cap3)).setCell ⟨w.heap.size + 2, 1, none⟩ (.int .i64 n)).alloc (.cells #[.slice a3 L3 cap3, .int .i64 n] 27))) := by
          have J4 := HJ3.out
          have hb2 := hsz2
          have hmx := hmlt
          refine ⟨v', (delM M ord x), (delOrd ord x), n, .slice a3 L3 cap3, _, (J4.put Hls.out ?_).ext' ((Upd.refl _ _).alloc _), HG'.out, HP'.out, by omega, ?_, ?_, hR'.out.2⟩
          · intro i hi
            have hs3 := HE3.out.size
            rcases hi with hi | ⟨h1, h2⟩
            · have := J4.slt i hi
              exact ⟨this, J4.sm i hi, J4.so i hi⟩
            · exact ⟨by omega, by omega, fun ho => by have := HJ2.out.rep.ownsLt i ho; omega⟩
          · exact ((((Upd.refl (fun k => k = w.heap.size + 2) w3).setCell (.inl (by rfl)) _).setCell (.inl (by rfl)) _).alloc _).heap hR3'.out (by omega)
          · intro i hi
            rcases hi with hi | ⟨h1, h2⟩
            · exact hRx.out.2.1 i hi
            · omega
        clear HJ1 hRx HG HP HJ Hown HG' HP' HJ2 hR' Hr HJ3 Hls HE3 hR3' 
        go_wp2_with fail
        go_roundg (steps.length - (k + 1))
        case measure => omega
        case rel => exact ⟨k + 1, by go_num, rfl, by omega, hfin.out⟩
      | false =>
        have hg2 := hG
        have J1 : JR w (w.heap.size + 1) (w.heap.size + 2) M v (.slice a cap2 cap1) ord n S (wr.alloc (.cells #[.bool false, .int .i64 x] 43)) := J.ext' ((Upd.refl _ wr).alloc _)
        have HJ1 := Lib.hid J1
        have hRx : Hid (wr.heap[w.heap.size]? = some (.cells #[.slice none 0 0, .int .i64 0] 27 (0, 0)) ∧ (∀ k, S k → k ≠ w.heap.size) ∧ ¬ own (w.heap.size + 1) v w.heap.size) := ⟨hR1, hR2, hR3⟩
        have HG := Lib.hid hG
        have HP := Lib.hid hP
        have HJ := Lib.hid J
        have hown := J.rep.ownsLt
        have Hown := Lib.hid hown
        have hmlt : w.heap.size + 2 < wr.heap.size := J.mlt
        clear J J1 hG hP hR1 hR2 hR3 hg2 hown hel
        go_wp2_with fail
        refine (ins_step w.heap.size (w.heap.size + 1) v M ord n x _ HJ1.out.rep HG.out (by simp; omega)).mono ?_
        rintro e w2 ⟨rfl, v', hW⟩
        have hG' := HG.out.ins x
        have hP' := HP.out.ins HG.out x
        have hn' := insN_le ord n x
        have HG' := Lib.hid hG'
        have HP' := Lib.hid hP'
        have J2 := HJ1.out.go hW
        have HJ2 := Lib.hid J2
        have c0 := J2.c0
        have c1 := J2.c1
        have hsb : w2.heap[wr.heap.size]? = some (.cells #[.bool false, .int .i64 x] 43) := hW.upd.heap (alloc0 _ _) (fun ho => by have := Hown.out _ ho; omega)
        have s1 : w2.cell? ⟨wr.heap.size, 1, none⟩ = some (.int .i64 x) := by rw [cell_of_row w2 _ 1 _ _ _ hsb]; rfl
        have hR' : Hid (w2.heap[w.heap.size]? = some (.cells #[.slice none 0 0, .int .i64 0] 27 (0, 0)) ∧ ¬ own (w.heap.size + 1) v' w.heap.size) := by
          refine ⟨hW.upd.heap (allocOld hRx.out.1 _) hRx.out.2.2, fun ho => ?_⟩
          rcases hW.own _ ho with h1 | h1
          · exact hRx.out.2.2 h1
          · simp at h1; omega
        have hsz2 : wr.heap.size + 1 ≤ w2.heap.size := by have := hW.upd.size; simpa using this
        clear hG' hP' hW J2 hsb
        generalize hr1 : (insRes ord n x).1 = r1 at *
        generalize hr2 : (insRes ord n x).2 = r2 at *
        have Hr : Hid ((insRes ord n x).1 = r1 ∧ (insRes ord n x).2 = r2) := ⟨hr1, hr2⟩
        generalize hnn : insN ord n x = N at *
        have Hnn := Lib.hid hnn
        have ht : two (insRes ord n x) = .tuple #[.int .i64 r1, .int .i64 r2] := by unfold two; rw [hr1, hr2]
        rw [ht]
        clear hr1 hr2 hnn ht
        go_wp2_with fail
        refine (rins_step S (.slice a cap2 cap1) ord n x w2 HJ2.out.ls HJ2.out.slt (by have := HG.out.inv.ordLen; have := HG.out.inv.len; omega)).mono ?_
        rintro e w3 ⟨sl', rfl, hls, hE3⟩
        rw [Hr.out.1, Hr.out.2, Hnn.out]
        obtain ⟨a3, cap3, hv3⟩ := hls.shape
        subst hv3
        generalize hlen3 : (insOrd ord n x).length = L3 at *
        have Hlen3 := Lib.hid hlen3
        have J3 := HJ2.out.ext' hE3
        have HJ3 := Lib.hid J3
        have d0 := J3.c0
        have d1 := J3.c1
        have f0 := J3.fz 0
        have f1 := J3.fz 1
        have hm3 : w.heap.size + 2 < w3.heap.size := J3.mlt
        have Hls := Lib.hid hls
        have HE3 := Lib.hid hE3
        have hR3' : Hid (w3.heap[w.heap.size]? = some (.cells #[.slice none 0 0, .int .i64 0] 27 (0, 0))) := hE3.heap hR'.out.1 (fun h => h)
        clear J3 hls hE3 hlen3 c0 c1 s1
        have hfin : Hid (PR w steps.length (k + 1) (((w3.setCell ⟨w.heap.size + 2, 0, none⟩ (.slice a3 L3 cap3)).setCell ⟨w.heap.size + 2, 1, none⟩ (.int .i64 N)).alloc (.cells #[.slice a3 L3 cap3, .int .i64 N] 27))) := by
          have J4 := HJ3.out
          have hb2 := hsz2
          have hmx := hmlt
          refine ⟨v', (insM M ord x), (insOrd ord n x), N, .slice a3 L3 cap3, _, (J4.put Hls.out ?_).ext' ((Upd.refl _ _).alloc _), HG'.out, HP'.out, by omega, ?_, ?_, hR'.out.2⟩
          · intro i hi
            have hs3 := HE3.out.size
            rcases hi with hi | ⟨h1, h2⟩
            · have := J4.slt i hi
              exact ⟨this, J4.sm i hi, J4.so i hi⟩
            · exact ⟨by omega, by omega, fun ho => by have := HJ2.out.rep.ownsLt i ho; omega⟩
          · exact ((((Upd.refl (fun k => k = w.heap.size + 2) w3).setCell (.inl (by rfl)) _).setCell (.inl (by rfl)) _).alloc _).heap hR3'.out (by omega)
          · intro i hi
            rcases hi with hi | ⟨h1, h2⟩
            · exact hRx.out.2.1 i hi
            · omega
        clear HJ1 hRx HG HP HJ Hown HG' HP' HJ2 hR' Hr HJ3 Hls HE3 hR3' Hnn
        go_wp2_with fail
        go_roundg (steps.length - (k + 1))
        case measure => omega
        case rel => exact ⟨k + 1, by go_num, rfl, by omega, hfin.out⟩
    · have he : k = steps.length := by omega
      have d0 := J.c0
      have d1 := J.c1
      have r0 : wr.cell? ⟨w.heap.size, 0, none⟩ = some (.slice none 0 0) := by rw [cell_of_row wr _ 0 _ _ _ hR1]; rfl
      have r1 : wr.cell? ⟨w.heap.size, 1, none⟩ = some (.int .i64 0) := by rw [cell_of_row wr _ 1 _ _ _ hR1]; rfl
      have f0 : wr.frozen? ⟨w.heap.size, 0, none⟩ = false := frozen_of_row wr _ 0 _ _ hR1
      have f1 : wr.frozen? ⟨w.heap.size, 1, none⟩ = false := frozen_of_row wr _ 1 _ _ hR1
      have HJ := Lib.hid J
      have HG := Lib.hid hG
      have HP := Lib.hid hP
      have hRx : Hid (wr.heap[w.heap.size]? = some (.cells #[.slice none 0 0, .int .i64 0] 27 (0, 0)) ∧ (∀ k, S k → k ≠ w.heap.size) ∧ ¬ own (w.heap.size + 1) v w.heap.size) := ⟨hR1, hR2, hR3⟩
      have Hnk := Lib.hid hnk
      have Hk := Lib.hid hk.out
      have t1 : decide ((k : Int) < (steps.length : Int)) = false := by simp; omega
      subst he
      clear J hG hP hR1 hR2 hR3 hnk
      go_wp2_with fail
      go_region
      all_goals go_wp2_with fail
      all_goals
        refine bodyPost_ret (v := .tuple #[.pointer (some ⟨w.heap.size + 1, 0, none⟩), .agg #[.slice a cap2 cap1, .int .i64 n], .bool true]) (by simp [results, Try.results10, go_sem, r0, r1]) rfl ?_
        have hU : Upd (fun k => k = w.heap.size) wr (((wr.setCell ⟨w.heap.size, 0, none⟩ (.slice a cap2 cap1)).setCell ⟨w.heap.size, 1, none⟩ (.int .i64 n)).drew) := by exact ((((Upd.refl (fun k => k = w.heap.size) wr)).setCell (.inl (by rfl)) _).setCell (.inl (by rfl)) _).drew
        refine ⟨w.heap.size + 1, v, M, ord, n, .slice a cap2 cap1, S, rfl, HJ.out.rep.kept hU (fun k hk e => hRx.out.2.2 (e ▸ hk)), HG.out, HP.out, Hnk.out, HJ.out.ls.kept hU (fun k hk e => hRx.out.2.1 k hk e), fun k hk => ⟨by have := HJ.out.slt k hk; have := hU.size; omega, HJ.out.so k hk⟩, HJ.out.ext.trans' hU (fun k hk e => by omega)⟩

end Go.Proofs.Ytnlminaanccejaa
