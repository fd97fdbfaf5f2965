/- The walk of the law OrderlistStays. -/
import Derived.Test.YtnlminaanccejaaF1
import Derived.Test.YtnlminaanccejaaP6
import Derived.BigQuiet
namespace Go.Proofs.Ytnlminaanccejaa
open Go.RowKit Go.Hw
set_option linter.unusedVariables false
set_option linter.unusedSimpArgs false

/-- the labels of a list's elements, as values -/
def labL (M : LM) (l : List Nat) : List Value := l.map fun a => Value.int .i64 (lbl M a)
theorem labL_succ (M : LM) (ord : List Nat) (k : Nat) (h : k < ord.length) : labL M (ord.take (k + 1)) = labL M (ord.take k) ++ [.int .i64 (lbl M (ord.getD k 0))] := by
  unfold labL
  rw [List.take_add_one, List.map_append]
  congr 1
  simp [h]
theorem labL_get (M : LM) (ord : List Nat) (k : Nat) (h : k < ord.length) : (labL M ord)[k]? = some (.int .i64 (lbl M (ord.getD k 0))) := by simp [labL, h]
theorem labelAt2 {M : LM} {ord : List Nat} {n k : Nat} (hg : Good M ord n) (h : k < ord.length) : M.labelR (ord.getD k 0 : Nat) = (lbl M (ord.getD k 0), 0) := by
  rw [hg.label, if_pos (pos_mem (getD_mem h)), pos_getD hg.inv.nd h]; rfl
theorem labelIn {M : LM} {ord : List Nat} {n a : Nat} (hg : Good M ord n) (h : 0 ≤ pos ord (a : Nat)) : M.labelR (a : Nat) = (lbl M a, 0) := by
  obtain ⟨k, hk⟩ := Int.eq_ofNat_of_zero_le h
  obtain ⟨h1, h2⟩ := pos_at hk
  have e : ord.getD k 0 = a := by omega
  rw [← e]; exact labelAt2 hg h1
theorem lbl_bd {M : LM} {ord : List Nat} {n a : Nat} (hg : Good M ord n) (h : a < n) : 0 ≤ lbl M a ∧ lbl M a ≤ 1099511627776 := hg.inv.lab a (by have := hg.len; omega)

/-- the relation of the loop that inserts and deletes -/
def SR (W : World) (b m n L : Nat) (M : LM) (ord : List Nat) (sl lv : Value) (S T : Nat → Prop) (M' : LM) (ord' : List Nat) (n' : Nat) (v' : Value) (w : World) : Prop :=
  JR W b m M' v' sl ord n S w ∧ Good M' ord' n' ∧ Since M ord n M' ord' n' ∧ SlR T w 1 lv L (labL M ord) ∧ (∀ k, T k → k < w.heap.size ∧ ¬ own b v' k)
section
variable {W : World} {b m n L : Nat} {M : LM} {ord : List Nat} {sl lv : Value} {S T : Nat → Prop} {M' : LM} {ord' : List Nat} {n' : Nat} {v' : Value} {w w' : World}
theorem SR.ext (h : SR W b m n L M ord sl lv S T M' ord' n' v' w) (hu : Ext w w') : SR W b m n L M ord sl lv S T M' ord' n' v' w' :=
  ⟨h.1.ext' hu, h.2.1, h.2.2.1, h.2.2.2.1.kept hu (fun _ _ h => h), fun k hk => ⟨by have := (h.2.2.2.2 k hk).1; have := hu.size; omega, (h.2.2.2.2 k hk).2⟩⟩
theorem SR.wrote {M2 : LM} {ord2 : List Nat} {n2 : Nat} {v2 : Value} (h : SR W b m n L M ord sl lv S T M' ord' n' v' w) (hw : Wrote W.heap.size b v' M2 w w' v2) (hg : Good M2 ord2 n2) (hs : Since M' ord' n' M2 ord2 n2) :
    SR W b m n L M ord sl lv S T M2 ord2 n2 v2 w' := by
  refine ⟨h.1.go hw, hg, h.2.2.1.trans hs, h.2.2.2.1.kept hw.upd (fun k hk => (h.2.2.2.2 k hk).2), fun k hk => ?_⟩
  obtain ⟨h1, h2⟩ := h.2.2.2.2 k hk
  refine ⟨by have := hw.upd.size; omega, fun ho => ?_⟩
  rcases hw.own k ho with e | e
  · exact h2 e
  · omega
/-- some state -/
def SE (W : World) (b m n L : Nat) (M : LM) (ord : List Nat) (sl lv : Value) (S T : Nat → Prop) (w : World) : Prop := ∃ M' ord' n' v', SR W b m n L M ord sl lv S T M' ord' n' v' w
theorem SE.ext (h : SE W b m n L M ord sl lv S T w) (hu : Ext w w') : SE W b m n L M ord sl lv S T w' := by
  obtain ⟨M', ord', n', v', h⟩ := h; exact ⟨_, _, _, _, h.ext hu⟩
theorem SE.toW (h : SE W b m n L M ord sl lv S T w) : Ext W w := by
  obtain ⟨M', ord', n', v', h⟩ := h; exact h.1.ext
theorem SE.del (h : SE W b m n L M ord sl lv S T w) (x : Int) : Calls Try.prog 20 #[.pointer (some ⟨b, 0, none⟩), .int .i64 x] w fun e w' => ∃ r, e = .returned (.int .i64 r) ∧ SE W b m n L M ord sl lv S T w' := by
  obtain ⟨M', ord', n', v', h⟩ := h
  refine (del_step W.heap.size b v' M' ord' n' x w h.1.rep h.2.1).mono ?_
  rintro e w' ⟨rfl, v2, hw⟩
  exact ⟨_, rfl, _, _, _, _, h.wrote hw (h.2.1.del x) (Since.del h.2.1 x)⟩
theorem SE.ins (h : SE W b m n L M ord sl lv S T w) (x : Int) : Calls Try.prog 16 #[.pointer (some ⟨b, 0, none⟩), .int .i64 x] w fun e w' => ∃ r q, e = .returned (.tuple #[.int .i64 r, .int .i64 q]) ∧ SE W b m n L M ord sl lv S T w' := by
  obtain ⟨M', ord', n', v', h⟩ := h
  refine (ins_step W.heap.size b v' M' ord' n' x w h.1.rep h.2.1 h.1.ext.size).mono ?_
  rintro e w' ⟨rfl, v2, hw⟩
  exact ⟨_, _, rfl, _, _, _, _, h.wrote hw (h.2.1.ins x) (Since.ins h.2.1 x)⟩
end

set_option maxRecDepth 100000 in
set_option maxHeartbeats 8000000 in
theorem stays_law (v0 v1 : Value) (steps more : List St) (w : World) (h : StR w v0 steps) (h1 : StR w v1 more) :
    Calls Try.prog 6 #[v0, v1] w fun e w' => e = .returned (.bool true) ∧ Ext w w' := by
  obtain ⟨a0, cap0, hv⟩ := h.shape
  subst hv
  obtain ⟨a1, cap01, hv⟩ := h1.shape
  subst hv
  have hk := Lib.hid h
  have hk1 := Lib.hid h1
  clear h h1
  by_cases hbig : 60 < steps.length
  · go_enter Try.func6, Try.ntmps6
    go_wp2_with fail
    refine (awake_any _).mono ?_
    rintro e w1 ⟨rfl, hE⟩
    go_wp2_with fail
    go_ret
    exact ⟨rfl, hE⟩
  by_cases hbig1 : 60 < more.length
  · go_enter Try.func6, Try.ntmps6
    go_wp2_with fail
    refine (awake_any _).mono ?_
    rintro e w1 ⟨rfl, hE⟩
    go_wp2_with fail
    go_ret
    exact ⟨rfl, hE⟩
  obtain ⟨i0, hi, hz0, hz1, hz2⟩ := info_parts info3
  go_enter Try.func6, Try.ntmps6
  go_wp2_with fail
  refine (awake_any _).mono ?_
  rintro e w1 ⟨rfl, hE⟩
  have HE := Lib.hid hE
  clear hE
  go_wp2_with fail
  refine (play_any _ steps w1 ((hk.out.kept HE.out (fun _ _ h => h)).weaken (fun k hk => by have := HE.out.size; omega)) (by omega)).mono ?_
  rintro e w2 ⟨b, v, M, ord, n, sl, S, rfl, hrep, hG, hP, hn, hls, hS, hE2⟩
  obtain ⟨a, cap1, hv⟩ := hls.shape
  subst hv
  generalize hL : ord.length = L at *
  have hE3 : Ext w2 (w2.alloc (.cells #[.slice a L cap1, .int .i64 n] 27)) := (Upd.refl _ w2).alloc _
  have hB : (w2.alloc (.cells #[.slice a L cap1, .int .i64 n] 27)).heap[w2.heap.size]? = some (.cells #[.slice a L cap1, .int .i64 n] 27) := alloc0 _ _
  have hol : L ≤ 2000 := by have := hG.inv.ordLen; have := hG.inv.len; omega
  have hls2 : LsR S w2 (.slice a L cap1) ord := hls
  have HJ : Hid (∀ W, Ext (w2.alloc (.cells #[.slice a L cap1, .int .i64 n] 27)) W → JR w1 b w2.heap.size M v (.slice a L cap1) ord n S W) := fun W hW =>
    JR.ext' ⟨hrep.kept hE3 (fun _ _ h => h), hB, hls2.kept hE3 (fun _ _ h => h), fun k hk => by have := (hS k hk).1; have := hE3.size; omega, fun k hk => by have := (hS k hk).1; omega, fun k hk => (hS k hk).2,
      fun ho => by have := hrep.ownsLt _ ho; omega, hE2.size, hE2.ext hE3⟩ hW
  have HOW : Hid (∀ k, own b v k → k < w2.heap.size) := hrep.ownsLt
  have hs3 : w2.heap.size + 1 = (w2.alloc (.cells #[.slice a L cap1, .int .i64 n] 27)).heap.size := by simp
  have HG := Lib.hid hG
  have HL := Lib.hid hL
  have c0 := (HJ.out _ (Upd.refl _ _)).c0
  have Hs3 := Lib.hid hs3
  clear hE3 hB hrep hG hP hls hls2 hS hE2 hL hs3
  go_wp2_with fail
  generalize w2.alloc (.cells #[.slice a L cap1, .int .i64 n] 27) = w3 at *
  generalize hm : w2.heap.size = m at *
  clear hm
  go_wp2_with fail
  go_loopg [8, 47] L (fun gk lv i wr => ∃ k : Nat, i = .int .i64 k ∧ gk = L - k ∧ k ≤ L ∧ Hid (wr.ownsRow w3.heap.size 3 1 lv k (labL M (ord.take k))) ∧ Hid (Ext w3 wr))
  case atStart => exact ⟨0, rfl, rfl, Nat.zero_le _, World.ownsRow_nil _ _ _ _, Upd.refl _ _⟩
  case round =>
    obtain ⟨k, rfl, rfl, hkL, Hown, HR⟩ := hrel
    clear c0
    by_cases hlt : k < L
    · have J := HJ.out _ HR.out
      have hlt2 : k < ord.length := by rw [HL.out]; exact hlt
      obtain ⟨g, off, cap, hv, hcc, hg, hj⟩ := J.ls.pos (by omega)
      rw [HL.out] at hv
      injection hv with e1 e2 e3
      subst e1; subst e3
      have hcel : wr.cell? ⟨g, off + k, none⟩ = some (.int .i64 (ord.getD k 0 : Nat)) := by
        rw [← ints_get ord k hlt2, ← hj k (by omega)]
      have C19 := label_any w1.heap.size b v M (ord.getD k 0 : Nat) wr J.rep HG.out.inv.wf
      rw [labelAt2 HG.out hlt2] at C19
      have HC19 := Lib.hid C19
      have Hsucc := Lib.hid (labL_succ M ord k hlt2)
      clear J hj C19 hg e2 hcc hlt2
      generalize lbl M (ord.getD k 0) = lb at *
      generalize ord.getD k 0 = X at *
      have i0' : (0 : Int) ≤ (k : Int) := by omega
      have i1' : (k : Int) < (L : Int) := by omega
      have hsz := HR.out.size
      go_wp2_with fail
      refine HC19.out.mono ?_
      rintro e w6 ⟨rfl, rfl⟩
      unfold two
      go_wp2_with (at_builtin; refine wpList_append_at _ rfl (.tmp 59) (.tmp 61) 25 rfl w3.heap.size 3 i0 (.int .i64 0) 1 8 Try.underlying25 hi hz0 hz1 hz2 rfl (by decide) _ _ _ rfl (Hown.out.alloc _) ⟨wr.heap.size, 0, none⟩ 1 1 [.int .i64 lb] rfl rfl ?c1 ?c2 ?c3 ?c4 ?c5 ?_)
      case c1 =>
        intro j u hj
        match j, hj with
        | 0, hj => simp at hj; subst hj; simp [Addr.add]
      case c2 => intro u hu; simp at hu; subst hu; rfl
      case c3 => unfold maxLen; omega
      case c4 => omega
      case c5 => simp; omega
      intro v' w5 hown' hgrow hblk
      have hu1 : Ext w3 (wr.alloc (.cells #[.int .i64 lb] 3)) := HR.out.alloc _
      have hu2 : Ext w3 w5 := upd_grown_new hu1 hgrow (fun k e => (Hown.out.lt k e).1)
      have R1 : Hid (w5.ownsRow w3.heap.size 3 1 v' (k + 1) (labL M (ord.take (k + 1)))) := by rw [Hsucc.out]; exact hown'
      have R2 := Lib.hid hu2
      clear hown' hgrow hblk hu1 hu2 Hown HR hcel HC19
      go_wp2_with fail
      go_roundg (L - (k + 1))
      case measure => omega
      case rel => exact ⟨k + 1, by go_num, rfl, by omega, R1, R2⟩
    · have hkk : k = L := by omega
      subst hkk
      obtain ⟨al, capl, hv⟩ := own_shape Hown.out
      subst hv
      have J := HJ.out _ HR.out
      have C17 := Lib.hid (moves_any w1.heap.size b v M wr J.rep)
      have HSE : Hid (SE w1 b m n k M ord (.slice a k cap1) (.slice al k capl) S (fun i => (Value.slice al k capl).ownBlock = some i) wr) := by
        refine ⟨M, ord, n, v, J, HG.out, Since.refl HG.out, ?_, fun i hi => ?_⟩
        · have := SlR.of_own Hown.out
          rw [List.take_of_length_le (by rw [HL.out]; exact Nat.le_refl _)] at this
          exact this
        · obtain ⟨q1, q2⟩ := Hown.out.lt i hi
          exact ⟨q2, fun ho => by have := HOW.out _ ho; have := Hs3.out; omega⟩
      have hm0 := HG.out.inv.m0
      have hm1 : M.moves ≤ 2000 * 2000 + 2000 := by have := HG.out.inv.m1; have := HG.out.inv.len; omega
      have Hmv : Hid (∃ q, q = M.moves) := ⟨_, rfl⟩
      generalize hmv : M.moves = MV at *
      have HMV := Lib.hid hmv
      generalize (fun i => (Value.slice al k capl).ownBlock = some i) = T at *
      clear hmv J Hown HR Hmv
      go_wp2_with fail
      refine C17.out.mono ?_
      rintro e w6 ⟨rfl, rfl⟩
      go_wp2_with fail
      obtain ⟨wa, hwa⟩ : ∃ wa, wa = wr := ⟨_, rfl⟩
      subst hwa
      go_loopg [68] more.length (fun gk i wr => ∃ j : Nat, i = .int .i64 j ∧ gk = more.length - j ∧ j ≤ more.length ∧ Hid (SE w1 b m n k M ord (.slice a k cap1) (.slice al k capl) S T wr))
      case atStart => exact ⟨0, rfl, rfl, Nat.zero_le _, HSE⟩
      case round =>
        obtain ⟨j, rfl, rfl, hjm, HSE2⟩ := hrel
        clear HSE C17
        by_cases hlt : j < more.length
        · obtain ⟨g, off, cap, hv, hc, hg, hj⟩ := hk1.out.pos (by omega)
          injection hv with e1 e2 e3
          subst e1; subst e3
          have hww := HE.out.ext HSE2.out.toW
          have hel : ∀ i, i < 2 → wr.cell? ⟨g, off + (j * 2 + i), none⟩ = (St.cells (more.getD j (false, 0)))[i]? := by
            intro i hi2
            have h1 := hj (j * 2 + i) (by omega)
            rw [stCells_get more j i hlt hi2] at h1
            rw [← h1]
            exact World.cell?_of_block (w := w) (hww.block g hg (fun h => h))
          generalize more.getD j (false, 0) = st at *
          obtain ⟨d, x⟩ := st
          have e0 : wr.cell? ⟨g, off + j * 2, none⟩ = some (.bool d) := hel 0 (by omega)
          have e1 : wr.cell? ⟨g, off + j * 2 + 1, none⟩ = some (.int .i64 x) := hel 1 (by omega)
          have i0' : (0 : Int) ≤ (j : Int) := by omega
          have i1' : (j : Int) < (more.length : Int) := by omega
          have HS3 : Hid (∀ o, SE w1 b m n k M ord (.slice a k cap1) (.slice al k capl) S T (wr.alloc o)) := fun o => HSE2.out.ext ((Upd.refl _ wr).alloc o)
          clear hel hj hww HSE2 e2
          cases d with
          | true =>
            go_wp2_with fail
            refine ((HS3.out _).del x).mono ?_
            rintro e w5 ⟨r, rfl, h5⟩
            have H5 := Lib.hid h5
            clear h5
            go_wp2_with fail
            go_roundg (more.length - (j + 1))
            case measure => omega
            case rel => exact ⟨j + 1, by go_num, rfl, by omega, H5⟩
          | false =>
            go_wp2_with fail
            refine ((HS3.out _).ins x).mono ?_
            rintro e w5 ⟨r, q, rfl, h5⟩
            have H5 := Lib.hid h5
            clear h5
            go_wp2_with fail
            go_roundg (more.length - (j + 1))
            case measure => omega
            case rel => exact ⟨j + 1, by go_num, rfl, by omega, H5⟩
        · obtain ⟨M', ord', n', v', J, hG', hSi, hlab, hT⟩ := HSE2.out
          have c0 := J.c0
          have HJ2 := Lib.hid J
          have HG2 := Lib.hid hG'
          have HSi := Lib.hid hSi
          have Hlab := Lib.hid hlab
          clear J hG' hSi hlab hT HSE2
          go_wp2_with fail
          obtain ⟨wb, hwb⟩ : ∃ wb, wb = wr := ⟨_, rfl⟩
          subst hwb
          go_loopg [16, 17, 86] k (fun gk s16 s17 i wr => ∃ j : Nat, s16 = .int .i64 (chg M M' ord ord' j : Nat) ∧ s17 = .int .i64 (lastS ord ord' j) ∧ i = .int .i64 j ∧ gk = k - j ∧ j ≤ k ∧ Hid (Ext wb wr))
          case atStart => exact ⟨0, by simp [chg], rfl, rfl, rfl, Nat.zero_le _, Upd.refl _ _⟩
          case round =>
            obtain ⟨j, rfl, rfl, rfl, rfl, hjk, HR⟩ := hrel
            clear c0
            have HJ3 := HJ2.out.ext' HR.out
            by_cases hlt : j < k
            · have hlt2 : j < ord.length := by rw [HL.out]; exact hlt
              obtain ⟨g, off, cap, hv, hcc, hg, hj⟩ := HJ3.ls.pos (by omega)
              rw [HL.out] at hv
              injection hv with e1 e2 e3
              subst e1; subst e3
              have hcel : wr.cell? ⟨g, off + j, none⟩ = some (.int .i64 (ord.getD j 0 : Nat)) := by
                rw [← ints_get ord j hlt2, ← hj j (by omega)]
              obtain ⟨gl, offl, cap', hv, hcc', hg', hj'⟩ := (Hlab.out.kept HR.out (fun _ _ h => h)).pos (by omega)
              injection hv with e1 e2 e3
              subst e1; subst e3
              have hlcel : wr.cell? ⟨gl, offl + j, none⟩ = some (.int .i64 (lbl M (ord.getD j 0))) := by
                rw [← labL_get M ord j hlt2, ← hj' j (by omega)]
              have hXn : ord.getD j 0 < n := by have := HG.out.inv.lt _ (getD_mem hlt2); have := HG.out.len; omega
              have C12 := contains_any w1.heap.size b v' M' (ord.getD j 0 : Nat) wr HJ3.rep HG2.out.inv.wf
              rw [HG2.out.inv.has] at C12
              have HC12 := Lib.hid C12
              have HC19 : Hid (0 ≤ pos ord' (ord.getD j 0 : Nat) → ∀ W, Ext wr W → Calls Try.prog 19 #[.pointer (some ⟨b, 0, none⟩), .int .i64 (ord.getD j 0 : Nat)] W fun e w' => e = .returned (.tuple #[.int .i64 (lbl M' (ord.getD j 0)), .int .i64 0]) ∧ W = w') := by
                intro hp W hW
                have := label_any w1.heap.size b v' M' (ord.getD j 0 : Nat) W (HJ3.ext' hW).rep HG2.out.inv.wf
                rw [labelIn HG2.out hp] at this
                exact this
              have HC21 : Hid (0 ≤ pos ord' (ord.getD j 0 : Nat) → 0 ≤ lastS ord ord' j → ∀ W, Ext wr W → Calls Try.prog 21 #[.pointer (some ⟨b, 0, none⟩), .int .i64 (lastS ord ord' j), .int .i64 (ord.getD j 0 : Nat)] W fun e w' => e = .returned (.tuple #[.int .i64 (-1), .int .i64 0]) ∧ Ext W w') := by
                intro hp hl W hW
                refine (compare_any w1.heap.size b v' M' _ _ W (HJ3.ext' hW).rep HG2.out.inv.wf).mono ?_
                rintro e w' ⟨rfl, nd, rfl⟩
                exact ⟨by rw [(HSi.out.cmp HG.out HG2.out hlt2 hl hp).1]; rfl, (Upd.refl _ W).drewN' nd⟩
              have HC22 : Hid (0 ≤ pos ord' (ord.getD j 0 : Nat) → 0 ≤ lastS ord ord' j → ∀ W, Ext wr W → Calls Try.prog 21 #[.pointer (some ⟨b, 0, none⟩), .int .i64 (ord.getD j 0 : Nat), .int .i64 (lastS ord ord' j)] W fun e w' => e = .returned (.tuple #[.int .i64 1, .int .i64 0]) ∧ Ext W w') := by
                intro hp hl W hW
                refine (compare_any w1.heap.size b v' M' _ _ W (HJ3.ext' hW).rep HG2.out.inv.wf).mono ?_
                rintro e w' ⟨rfl, nd, rfl⟩
                exact ⟨by rw [(HSi.out.cmp HG.out HG2.out hlt2 hl hp).2]; rfl, (Upd.refl _ W).drewN' nd⟩
              have Hch := Lib.hid (chg_succ (M := M) (M' := M') (ord' := ord') hlt2)
              have Hls : Hid (lastS ord ord' (j + 1) = if 0 ≤ pos ord' (ord.getD j 0 : Nat) then ((ord.getD j 0 : Nat) : Int) else lastS ord ord' j) := rfl
              have hchb := chg_le M M' ord ord' j
              have hk2 : k ≤ 2000 := hol
              clear hj hj' hg hg' hcc hcc' C12 e2 hXn HJ3 hlt2
              generalize hp : pos ord' (ord.getD j 0 : Nat) = p at *
              clear hp
              generalize lbl M (ord.getD j 0) = lb at *
              generalize lbl M' (ord.getD j 0) = lb' at *
              generalize ord.getD j 0 = X at *
              generalize lastS ord ord' j = la at *
              generalize chg M M' ord ord' j = ch at *
              have i0' : (0 : Int) ≤ (j : Int) := by omega
              have i1' : (j : Int) < (k : Int) := by omega
              by_cases hp : 0 ≤ p
              · by_cases hl : 0 ≤ la
                · by_cases hq : lb' = lb
                  · go_wp2_with fail
                    refine HC12.out.mono ?_
                    rintro e w5 ⟨rfl, rfl⟩
                    go_wp2_with fail
                    refine (HC21.out hp hl _ (Upd.refl _ _)).mono ?_
                    rintro e w5 ⟨rfl, hx5⟩
                    go_wp2_with fail
                    refine (HC22.out hp hl _ hx5).mono ?_
                    rintro e w6 ⟨rfl, hy6⟩
                    have hx6 : Ext wr w6 := hx5.ext hy6
                    have HR6 : Hid (Ext wb w6) := HR.out.ext hx6
                    have hlcel6 : w6.cell? ⟨gl, offl + j, none⟩ = some (.int .i64 lb) := hx6.cell hlcel (fun h => h)
                    clear hx5 hy6
                    go_wp2_with fail
                    refine (HC19.out hp _ hx6).mono ?_
                    rintro e w7 ⟨rfl, rfl⟩
                    go_wp2_with fail
                    go_roundg (k - (j + 1))
                    case measure => omega
                    case rel => exact ⟨j + 1, by have q := Hch.out; split at q <;> (congr 1; omega), by rw [Hls.out, if_pos (by omega)], by go_num, rfl, by omega, HR6⟩
                  · go_wp2_with fail
                    refine HC12.out.mono ?_
                    rintro e w5 ⟨rfl, rfl⟩
                    go_wp2_with fail
                    refine (HC21.out hp hl _ (Upd.refl _ _)).mono ?_
                    rintro e w5 ⟨rfl, hx5⟩
                    go_wp2_with fail
                    refine (HC22.out hp hl _ hx5).mono ?_
                    rintro e w6 ⟨rfl, hy6⟩
                    have hx6 : Ext wr w6 := hx5.ext hy6
                    have HR6 : Hid (Ext wb w6) := HR.out.ext hx6
                    have hlcel6 : w6.cell? ⟨gl, offl + j, none⟩ = some (.int .i64 lb) := hx6.cell hlcel (fun h => h)
                    clear hx5 hy6
                    go_wp2_with fail
                    refine (HC19.out hp _ hx6).mono ?_
                    rintro e w7 ⟨rfl, rfl⟩
                    go_wp2_with fail
                    go_roundg (k - (j + 1))
                    case measure => omega
                    case rel => exact ⟨j + 1, by have q := Hch.out; split at q <;> (congr 1; omega), by rw [Hls.out, if_pos (by omega)], by go_num, rfl, by omega, HR6⟩
                · by_cases hq : lb' = lb
                  · go_wp2_with fail
                    refine HC12.out.mono ?_
                    rintro e w5 ⟨rfl, rfl⟩
                    go_wp2_with fail
                    have HR6 : Hid (Ext wb wr) := HR
                    have hx6 : Ext wr wr := Upd.refl _ _
                    refine (HC19.out hp _ hx6).mono ?_
                    rintro e w7 ⟨rfl, rfl⟩
                    go_wp2_with fail
                    go_roundg (k - (j + 1))
                    case measure => omega
                    case rel => exact ⟨j + 1, by have q := Hch.out; split at q <;> (congr 1; omega), by rw [Hls.out, if_pos (by omega)], by go_num, rfl, by omega, HR6⟩
                  · go_wp2_with fail
                    refine HC12.out.mono ?_
                    rintro e w5 ⟨rfl, rfl⟩
                    go_wp2_with fail
                    have HR6 : Hid (Ext wb wr) := HR
                    have hx6 : Ext wr wr := Upd.refl _ _
                    refine (HC19.out hp _ hx6).mono ?_
                    rintro e w7 ⟨rfl, rfl⟩
                    go_wp2_with fail
                    go_roundg (k - (j + 1))
                    case measure => omega
                    case rel => exact ⟨j + 1, by have q := Hch.out; split at q <;> (congr 1; omega), by rw [Hls.out, if_pos (by omega)], by go_num, rfl, by omega, HR6⟩
              · go_wp2_with fail
                refine HC12.out.mono ?_
                rintro e w5 ⟨rfl, rfl⟩
                rw [show decide (0 ≤ p) = false by simp; omega]
                go_wp2_with fail
                go_roundg (k - (j + 1))
                case measure => omega
                case rel => exact ⟨j + 1, by have q := Hch.out; split at q <;> (congr 1; omega), by rw [Hls.out, if_neg (by omega)], by go_num, rfl, by omega, HR⟩
            · have hjk2 : j = k := by omega
              subst hjk2
              have C17 := Lib.hid (moves_any w1.heap.size b v' M' wr HJ3.rep)
              have hge := HSi.out.chg_moves HG.out j
              rw [HMV.out] at hge
              have hm0' := HG2.out.inv.m0
              have hm1' : M'.moves ≤ 2000 * 2000 + 2000 := by have := HG2.out.inv.m1; have := HG2.out.inv.len; omega
              have hfin := Lib.hid (HE.out.ext HJ3.ext)
              generalize M'.moves = MV' at *
              generalize chg M M' ord ord' j = ch at *
              clear HJ3 HR
              go_wp2_with fail
              refine C17.out.mono ?_
              rintro e w5 ⟨rfl, rfl⟩
              go_wp2_with fail
              go_ret
              exact ⟨by first | (simp; done) | (simp; omega), hfin.out⟩

end Go.Proofs.Ytnlminaanccejaa
