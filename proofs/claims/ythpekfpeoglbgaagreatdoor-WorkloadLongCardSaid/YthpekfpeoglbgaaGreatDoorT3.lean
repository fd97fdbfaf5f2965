/- Itoa, a Builder of the call's own. -/
import Derived.Test.YthpekfpeoglbgaaGreatDoorT2
import Derived.Test.YthpekfpeoglbgaaGreatDoorShelf
import Derived.Lib.AppendIntMem
namespace Go.Proofs.YthpekfpeoglbgaaGreatDoor
open Go.RowKit Go.Hw
set_option linter.unusedVariables false
set_option linter.unusedSimpArgs false
theorem tab_ext {w w' : World} (h : Lib.TabIs Tryz.prog w "internal/strconv.uint64pow10" .u64 Lib.pow10Tab) (hb : Ext w w') : Lib.TabIs Tryz.prog w' "internal/strconv.uint64pow10" .u64 Lib.pow10Tab := by
  unfold Lib.TabIs World.var? at *
  cases hg : Tryz.prog.globalNamed "internal/strconv.uint64pow10" with
  | none => simp [hg] at h
  | some g =>
    simp only [hg, Option.bind_some] at h ⊢
    have hlt : g < w.heap.size := by
      rcases Nat.lt_or_ge g w.heap.size with h' | h'
      · exact h'
      · rw [Array.getElem?_eq_none h'] at h; simp at h
    rw [hb.block g hlt (fun x => x)]
    exact h
theorem itoa_x (n : Int) (w : World) (h0 : -9223372036854775808 ≤ n) (h1 : n ≤ 9223372036854775807) (htab : Lib.TabIs Tryz.prog w "internal/strconv.uint64pow10" .u64 Lib.pow10Tab) : Calls Tryz.prog 58 #[.int .i64 n] w fun e w' => e = .returned (.string (bs (Lib.itoa n))) ∧ Ext w w' :=
  (Tryz.strconv_Itoa n h0 h1 w htab).mono fun e w' ⟨h, k, os, h'⟩ => ⟨h, by
    subst h'
    have hb := Lib.below_grow w.heap.size w (Nat.le_refl _) k os
    exact ⟨hb.os, hb.tape, hb.output, hb.size, fun k hk _ => hb.block k hk⟩⟩

/-! ### a Builder of the call's own -/
def BdR (B b : Nat) (l : List UInt8) (w : World) : Prop := Lib.IsBuilder 71 5 B b (Lib.byteCells l) w
theorem BdR.new (B : Nat) (w : World) (h : B ≤ w.heap.size) : BdR B w.heap.size [] (w.alloc (.cells #[.pointer none, .slice none 0 0] 71)) :=
  Or.inl ⟨h, .slice none 0 0, alloc0 w _, World.ownsRow_nil _ _ _ _, by simp [Value.ownBlock]⟩
theorem BdR.at_ext {B b : Nat} {p : Value} {l : List Value} {w w' : World} (h : Lib.BuilderAt 71 5 B b p l w) (hb : Ext w w') : Lib.BuilderAt 71 5 B b p l w' := by
  obtain ⟨h1, v, h2, h3, h4⟩ := h
  exact ⟨h1, v, hb.heap h2 (fun h => h), own_kept h3 hb (fun _ _ h => h), h4⟩
theorem BdR.ext {B b : Nat} {l : List UInt8} {w w' : World} (h : BdR B b l w) (hb : Ext w w') : BdR B b l w' := by
  rcases h with h | h
  · exact Or.inl (BdR.at_ext h hb)
  · exact Or.inr (BdR.at_ext h hb)
theorem infoU8 : (Tryz.prog.info? 5).map (fun i => (i.zero, i.size, i.bytes)) = some (some (.int .u8 0), 1, 1) := by kernel_rfl
theorem infoBd : (Tryz.prog.info? 71).map (·.size) = some 2 := by kernel_rfl
set_option maxRecDepth 100000 in
set_option maxHeartbeats 1000000 in
theorem ccheck_x (B b : Nat) (bs : List Value) (w : World) (h : Lib.IsBuilder 71 5 B b bs w) :
    Calls Tryz.prog 57 #[.pointer (some ⟨b, 0, none⟩)] w fun e w' => e = .returned (.tuple #[]) ∧ Lib.BuilderAt 71 5 B b (.pointer (some ⟨b, 0, none⟩)) bs w' ∧ Below B w w' := by
  obtain ⟨j, hj, hjs⟩ := Option.map_eq_some_iff.1 infoBd
  have HH := Lib.hid h
  rcases h with h | h
  · have c0 := h.cell0
    have f0 := h.frozen0
    have HS := Lib.hid h.shape
    have hcv := Lib.run_to_unsafe (P := Tryz.prog) w ⟨b, 0, none⟩ Tryz.underlying69 Tryz.underlying126 hj (by rw [hjs]; decide) HS.out (Nat.zero_lt_succ 1)
    have HX := Lib.hid h
    clear h
    go_enter Tryz.func57, Tryz.ntmps57
    go_wp2_with fail
    rw [run_callFunc_extern Tryz.func79 (by kernel_rfl) (by kernel_rfl) (by kernel_rfl) (e := Extern.AbiNoEscape.same) (by kernel_rfl), Lib.run_noEscape]
    simp only [Result.andThen]
    rw [Oper.upon_value]
    go_wp2_with fail
    rw [Lib.run_from_unsafe (P := Tryz.prog) w ⟨b, 0, none⟩ Tryz.underlying126 Tryz.underlying69 hj HS.out (by kernel_rfl)]
    simp only [Result.andThen]
    rw [Oper.upon_value]
    go_wp2_with fail
    go_end0
    exact ⟨rfl, HX.out.used _, (Below.refl B w).setCell (p := ⟨b, 0, none⟩) HX.out.1 _⟩
  · have c0 := h.cell0
    have hq := Lib.run_neq_ptr_same (P := Tryz.prog) w ⟨b, 0, none⟩ Tryz.underlying69 hj
    have HX := Lib.hid h
    clear h
    go_enter Tryz.func57, Tryz.ntmps57
    go_wp2_with fail
    go_end0
    exact ⟨rfl, HX.out, Below.refl B _⟩
set_option maxHeartbeats 1000000 in
theorem write_x (B b : Nat) (l m : List UInt8) (w : World) (h : BdR B b l w) (hlen : l.length + m.length ≤ 140737488355328) (hB : B ≤ w.heap.size) :
    Calls Tryz.prog 28 #[.pointer (some ⟨b, 0, none⟩), .string (bs m)] w fun e w' => e = .returned (.tuple #[.int .i64 m.length, .nilIface]) ∧ BdR B b (l ++ m) w' ∧ Below B w w' := by
  obtain ⟨i0, hi, hz0, hz1, hz2⟩ := info_parts infoU8
  have H0 := Lib.hid h
  clear h
  have hsz := bs_size m
  generalize hm : bs m = s at *
  have HM := Lib.hid hm
  clear hm
  go_enter Tryz.func28, Tryz.ntmps28
  go_wp2_with fail
  refine (ccheck_x B b _ _ H0.out).mono ?_
  rintro e w1 ⟨rfl, h1, hb1⟩
  obtain ⟨hB1, v, hbk, hown, hne⟩ := h1
  have HOWN := Lib.hid hown
  obtain ⟨va, vc, hvs⟩ := own_shape hown
  clear hown
  subst hvs
  have c0 := cellRow hbk 0 _ rfl
  have c1 := cellRow hbk 1 _ rfl
  have HBK := Lib.hid hbk
  have HNE := Lib.hid hne
  clear hbk hne
  go_wp2_with (at_builtin; refine Lib.wpList_append_own_string _ rfl _ _ 34 9 rfl B 5 i0 Tryz.underlying34 Tryz.underlying9 hi hz0 hz1 hz2 _ _ _ rfl HOWN.out s rfl ?c3 ?c4 ?c5 ?_)
  case c3 => rw [Lib.byteCells_length]; unfold maxLen; omega
  case c4 => rw [Lib.byteCells_length]; omega
  case c5 => have := hb1.size; omega
  intro v' w2 hown' hgrow _
  have hlt : b < w1.heap.size := (Array.getElem?_eq_some_iff.1 HBK.out).1
  have hb2 : w2.heap[b]? = some (.cells #[.pointer (some ⟨b, 0, none⟩), .slice va (Lib.byteCells l).length vc] 71 (0, 0)) := by
    rw [hgrow.block b hlt (fun e => HNE.out e.symm)]
    exact HBK.out
  have HB2 := Lib.hid hb2
  have d1 := cellRow hb2 1 _ rfl
  have f1 := frozenRow hb2 1
  have HO := Lib.hid hown'
  obtain ⟨xa, xc, hxs⟩ := own_shape hown'
  subst hxs
  have HG := Lib.hid hgrow
  clear hown' hb2 hgrow c0 c1
  go_wp2_with fail
  go_ret2
  refine ⟨rfl, Or.inr ?_, ?_⟩
  · have h8 := HO.out
    rw [← HM.out, Lib.strCells_eq, bs_data] at h8
    refine Lib.BuilderAt.put (T := 71) (e := 5) hB1 HB2.out (bs' := Lib.byteCells (l ++ m)) ?_ (by decide)
    rw [show Lib.byteCells (l ++ m) = Lib.byteCells l ++ Lib.byteCells m by simp [Lib.byteCells]]
    rw [List.length_append, Lib.byteCells_length m]
    exact h8
  · exact (hb1.grown HG.out (by have := hb1.size; omega) (fun k hk => (HOWN.out.lt k hk).1)).setCell (p := ⟨b, 1, none⟩) hB1 _
theorem blen_x (B b : Nat) (l : List UInt8) (w : World) (h : BdR B b l w) :
    Calls Tryz.prog 30 #[.pointer (some ⟨b, 0, none⟩)] w fun e w' => e = .returned (.int .i64 l.length) ∧ w = w' := by
  refine (Tryz.Builder_Len B b (Lib.byteCells l) w h).mono ?_
  rintro e w' ⟨he, h1⟩
  rw [Lib.byteCells_length] at he
  exact ⟨he, h1.symm⟩
theorem bstr_x (B b : Nat) (l : List UInt8) (w : World) (h : BdR B b l w) (hB : B ≤ w.heap.size) :
    Calls Tryz.prog 31 #[.pointer (some ⟨b, 0, none⟩)] w fun e w' => e = .returned (.string (bs l)) ∧ Below B w w' :=
  Tryz.Builder_String_any B b l w h hB

end Go.Proofs.YthpekfpeoglbgaaGreatDoor
