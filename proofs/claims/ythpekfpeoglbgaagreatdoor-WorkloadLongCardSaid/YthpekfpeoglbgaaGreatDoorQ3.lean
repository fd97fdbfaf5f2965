/- What the row's world gives; the search of a word. -/
import Derived.Test.YthpekfpeoglbgaaGreatDoorQ2
import Derived.Test.YthpekfpeoglbgaaGreatDoorT6
import Derived.Lib.AtoiErrMem
import Derived.Deep.QuietTactic
import Derived.BigQuiet
namespace Go.Proofs.YthpekfpeoglbgaaGreatDoor
open Go.RowKit Go.Hw
set_option linter.unusedVariables false
set_option linter.unusedSimpArgs false

theorem below_ext {w w' : World} (h : Below w.heap.size w w') : Ext w w' := ⟨h.os, h.tape, h.output, h.size, fun k hk _ => h.block k hk⟩
theorem cell_ext {w w' : World} {a : Addr} {v : Value} (h : w.cell? a = some v) (hw : Ext w w') : w'.cell? a = some v := hw.cell h (fun h => h)
theorem var_ext {w w' : World} {n : String} {cs : Array Value} (h : w.var? Tryz.prog n = some cs) (hw : Ext w w') : w'.var? Tryz.prog n = some cs := by
  unfold World.var? at *
  cases hg : Tryz.prog.globalNamed n with
  | none => simp [hg] at h
  | some g =>
    simp only [hg, Option.bind_some] at h ⊢
    have hlt : g < w.heap.size := by
      rcases Nat.lt_or_ge g w.heap.size with h' | h'
      · exact h'
      · rw [Array.getElem?_eq_none h'] at h; simp at h
    rw [hw.block g hlt (fun x => x)]
    exact h
/-- what the row's world holds -/
structure Env (w : World) : Prop where
  tab : Lib.TabIs Tryz.prog w "internal/strconv.uint64pow10" .u64 Lib.pow10Tab
  syn : ∃ t p, w.var? Tryz.prog "strconv.ErrSyntax" = some #[.iface t p]
  rng : ∃ t p, w.var? Tryz.prog "strconv.ErrRange" = some #[.iface t p]
  mx : ∃ m, w.cell? ⟨0, 0, none⟩ = some (.int .i64 m)
theorem Env.ext {w w' : World} (h : Env w) (hw : Ext w w') : Env w' :=
  ⟨tab_ext h.tab hw, h.syn.imp fun _ ⟨p, h⟩ => ⟨p, var_ext h hw⟩, h.rng.imp fun _ ⟨p, h⟩ => ⟨p, var_ext h hw⟩, h.mx.imp fun _ h => cell_ext h hw⟩
theorem cut_x (l : List UInt8) (z : UInt8) (w : World) (h : Env w) (hs : l.length ≤ 1000000) : Calls Tryz.prog 19 #[.string (bs l), .string ⟨#[z]⟩] w fun e w' => e = .returned (.tuple #[.string (bs (Lib.cut l [z]).1), .string (bs (Lib.cut l [z]).2.1), .bool (Lib.cut l [z]).2.2]) ∧ Ext w w' := by
  obtain ⟨m, hm⟩ := h.mx
  refine (Tryz.strings_Cut (bs l) ⟨#[z]⟩ m w (by rw [bs_size]; omega) hm).mono ?_
  rintro e w' ⟨rfl, n, rfl⟩
  exact ⟨rfl, (Upd.refl _ w).drewN' _⟩
theorem cutp_x (l p : List UInt8) (w : World) : Calls Tryz.prog 20 #[.string (bs l), .string (bs p)] w fun e w' => e = .returned (.tuple #[.string (bs (Lib.trimPrefix l p)), .bool (Lib.hasPrefix l p)]) ∧ w = w' := by
  refine (Tryz.strings_CutPrefix (bs l) (bs p) w).mono ?_
  rintro e w' ⟨rfl, rfl⟩
  exact ⟨rfl, rfl⟩
theorem split_x (t : ByteArray) (w : World) (h : Env w) (hs : t.size ≤ 1000000) : Calls Tryz.prog 48 #[.string t, .string ⟨#[32]⟩] w fun e w' => ∃ g, e = .returned (.slice (some ⟨g, 0, none⟩) (partsB t).length (partsB t).length) ∧ (∀ j, j < (partsB t).length → w'.cell? ⟨g, j, none⟩ = some (.string ((partsB t).getD j ByteArray.empty))) ∧ Ext w w' := by
  obtain ⟨m, hm⟩ := h.mx
  refine (Tryz.strings_Split t ⟨#[32]⟩ m w (by omega) hm (by decide)).mono ?_
  rintro e w' ⟨rfl, rfl⟩
  refine ⟨w.heap.size, by rw [parts_length], fun j hj => ?_, (Upd.refl _ w).alloc _⟩
  rw [cell_of_row _ _ _ _ _ _ (alloc0 w _)]
  show (((partsB t).map Value.string).toArray)[j]? = _
  simp [hj]
theorem atoi_x (t : ByteArray) (w : World) (h : Env w) (hs : t.size ≤ 1000000) : (∃ v, Lib.atoiAll t.data.toList = .ok v ∧ Calls Tryz.prog 51 #[.string t] w fun e w' => e = .returned (.tuple #[.int .i64 v, .nilIface]) ∧ Ext w w') ∨
    ((∀ v, Lib.atoiAll t.data.toList ≠ .ok v) ∧ ∃ v, Calls Tryz.prog 51 #[.string t] w fun e w' => ∃ q, e = .returned (.tuple #[.int .i64 v, .iface 134 (.pointer (some q))]) ∧ Ext w w') := by
  have hm : t.size ≤ 281474976710656 := by omega
  obtain ⟨t1, p1, h1⟩ := h.syn
  obtain ⟨t2, p2, h2⟩ := h.rng
  cases ha : Lib.atoiAll t.data.toList with
  | ok v =>
    left
    refine ⟨v, rfl, ?_⟩
    refine (Tryz.strconv_Atoi_ok t (by omega) v ha w).mono ?_
    rintro e w' ⟨rfl, h⟩
    refine ⟨rfl, ?_⟩
    rcases h with rfl | ⟨t, rfl⟩
    · exact Upd.refl _ _
    · exact below_ext (Lib.bytesWorld_below _ _ _)
  | range =>
    right
    refine ⟨fun v h => (by cases h), Lib.atoiSat t.data.toList, ?_⟩
    refine (Tryz.strconv_Atoi_range_var t hm ha t2 p2 w h2).mono ?_
    rintro e w' ⟨N, rfl, _, _, hb⟩
    exact ⟨_, rfl, below_ext hb⟩
  | _ =>
    right
    refine ⟨fun v h => (by cases h), 0, ?_⟩
    refine (Tryz.strconv_Atoi_syntax_var t hm ha t1 p1 w h1).mono ?_
    rintro e w' ⟨N, rfl, _, _, hb⟩
    exact ⟨_, rfl, below_ext hb⟩
theorem nmB_get (kind : Int) (j : Nat) (h : j < nW kind) : (nmB kind).getD j ByteArray.empty = bs ((wNm kind).getD j []) := by
  have h2 : j < (wNm kind).length := by rw [wNm_length]; exact h
  unfold nmB
  simp [h2]
/-- the table with all its cells -/
structure WordsC (kind : Int) (w' : World) (g : Nat) : Prop where
  row : ∀ i, i < nW kind → w'.cell? ⟨g, i * 3, none⟩ = some (.string ((nmB kind).getD i ByteArray.empty)) ∧ ∃ x b, w'.cell? ⟨g, i * 3 + 1, none⟩ = some (.int .i64 x) ∧ w'.cell? ⟨g, i * 3 + 2, none⟩ = some (.bool b)
theorem WordsC.ext {kind : Int} {w w' : World} {g : Nat} (h : WordsC kind w g) (hw : Ext w w') : WordsC kind w' g :=
  ⟨fun i hi => by obtain ⟨h1, x, b, h2, h3⟩ := h.row i hi; exact ⟨cell_ext h1 hw, x, b, cell_ext h2 hw, cell_ext h3 hw⟩⟩
set_option maxHeartbeats 1000000 in
theorem wordsC_known (kind : Int) (w : World) (hk : 1 ≤ kind ∧ kind ≤ 6) : Calls Tryz.prog 47 #[.int .i64 kind] w fun e w' => ∃ g, e = .returned (.slice (some ⟨g, 0, none⟩) (nW kind) (nW kind)) ∧ WordsC kind w' g ∧ Ext w w' := by
  have : kind = 1 ∨ kind = 2 ∨ kind = 3 ∨ kind = 4 ∨ kind = 5 ∨ kind = 6 := by omega
  rcases this with rfl | rfl | rfl | rfl | rfl | rfl
  all_goals
    go_enter Tryz.func47, Tryz.ntmps47
    go_wp2_with fail
    go_ret
    refine ⟨w.heap.size, rfl, ⟨?_⟩, (Upd.refl _ w).alloc _⟩
    intro i hi
    have hi8 : i < 8 := Nat.lt_of_lt_of_le hi (nW_le _)
    rw [nmB_get _ i hi]
    simp only [cell_of_row _ _ _ _ _ _ (alloc0 _ _)]
    rcases i with _ | _ | _ | _ | _ | _ | _ | _ | i <;> first | exact ⟨rfl, _, _, rfl, rfl⟩ | (exact absurd hi (by decide)) | omega
set_option maxHeartbeats 1000000 in
set_option maxRecDepth 100000 in
theorem clo_word (x P : ByteArray) (a : Int) (b B : Bool) (pp pg n cap : Nat) (w : World) (hp : w.cell? ⟨pp, 0, none⟩ = some (.slice (some ⟨pg, 0, none⟩) n cap)) (hq : w.cell? ⟨pg, 0, none⟩ = some (.string P)) (hn : 0 < n) (hB : (x.toList == P.toList) = B) :
    Calls Tryz.prog 50 #[.agg #[.string x, .int .i64 a, .bool b], .pointer (some ⟨pp, 0, none⟩)] w fun e w' => e = .returned (.bool B) ∧ Ext w w' := by
  have HE0 : Hid (Ext w (w.alloc (.cells #[.string x, .int .i64 a, .bool b] 99))) := (Upd.refl _ w).alloc _
  have hb := alloc0 w (.cells #[.string x, .int .i64 a, .bool b] 99)
  have k0 := cellRow hb 0 _ rfl
  have p0 := cell_ext hp HE0.out
  have q0 := cell_ext hq HE0.out
  have i0 : (0 : Int) < (n : Int) := by omega
  clear hb hp hq
  go_enter Tryz.func50, Tryz.ntmps50
  go_wp2_with fail
  go_quiet (fail)
  go_wp2_with fail
  go_ret
  exact ⟨rfl, HE0.out.drewN' _⟩
set_option maxRecDepth 100000 in
theorem idx_word (kind : Int) (g pp pg n cap : Nat) (P : ByteArray) (w : World) (hw : WordsC kind w g) (hp : w.cell? ⟨pp, 0, none⟩ = some (.slice (some ⟨pg, 0, none⟩) n cap)) (hq : w.cell? ⟨pg, 0, none⟩ = some (.string P)) (hn : 0 < n) :
    Calls Tryz.prog 49 #[.slice (some ⟨g, 0, none⟩) (nW kind) (nW kind), .func (.func 50) #[] #[.pointer (some ⟨pp, 0, none⟩)]] w fun e w' => e = .returned (.int .i64 (Lib.idxOfS (nmB kind) P)) ∧ Ext w w' := by
  have hen : ∀ args W, Sem.run Tryz.prog (callFunc 50 args) W = .ok (.enter 50 args) W := enters_of Tryz.func50 (by kernel_rfl) rfl
  have HW := Lib.hid hw
  have HP := Lib.hid hp
  have HQ := Lib.hid hq
  have hnl : (nmB kind).length = nW kind := by unfold nmB; rw [List.length_map, wNm_length]
  have HH : Hid (∀ k, k < nW kind → (nmB kind).getD k ByteArray.empty = P → (∀ j, j < k → (nmB kind).getD j ByteArray.empty ≠ P) → Lib.idxOfS (nmB kind) P = (k : Int)) := fun k h1 h2 h3 => by
    have := Lib.idxOfS_hit (nmB kind) (nW kind) k P h1 (by omega) h2 h3
    rwa [List.take_of_length_le (by omega)] at this
  have HM : Hid ((∀ j, j < nW kind → (nmB kind).getD j ByteArray.empty ≠ P) → Lib.idxOfS (nmB kind) P = -1) := fun h => by
    have := Lib.idxOfS_miss (nmB kind) (nW kind) P h
    rwa [List.take_of_length_le (by omega)] at this
  obtain ⟨R, hR⟩ : ∃ R, Lib.idxOfS (nmB kind) P = R := ⟨_, rfl⟩
  rw [hR] at HH HM ⊢
  have hn8 := nW_le kind
  have HROW : Hid (∀ i, i < nW kind → ∀ W, Ext w W → W.cell? ⟨g, i * 3, none⟩ = some (.string ((nmB kind).getD i ByteArray.empty)) ∧ ∃ x b, W.cell? ⟨g, i * 3 + 1, none⟩ = some (.int .i64 x) ∧ W.cell? ⟨g, i * 3 + 2, none⟩ = some (.bool b)) := fun i hi W hW => (HW.out.ext hW).row i hi
  clear hw hp hq hR hnl HW
  generalize nW kind = N at *
  go_enter Tryz.func49, Tryz.ntmps49
  go_wp2_with fail
  go_loopg [5, 8] N (fun gk s5 i wr => ∃ j : Nat, i = .int .i64 j ∧ gk = N - j ∧ j ≤ N ∧ Hid (∀ i, i < j → (nmB kind).getD i ByteArray.empty ≠ P) ∧ Hid (Ext w wr))
  case atStart => exact ⟨0, rfl, rfl, Nat.zero_le _, fun i h => absurd h (Nat.not_lt_zero _), Upd.refl _ _⟩
  case round =>
    obtain ⟨j, rfl, rfl, hj, Hj, HE⟩ := hrel
    by_cases hlt : j < N
    · obtain ⟨c0, xa, xb, c1, c2⟩ := HROW.out j hlt wr HE.out
      have HPX := Lib.hid (cell_ext HP.out HE.out)
      have HQX := Lib.hid (cell_ext HQ.out HE.out)
      have i0' : (0 : Int) ≤ (j : Int) := by omega
      have i1' : (j : Int) < (N : Int) := by omega
      by_cases hpx : (nmB kind).getD j ByteArray.empty = P
      · have HC := Lib.hid (clo_word _ P xa xb true pp pg n cap wr HPX.out HQX.out hn ((Lib.bytes_beq_iff _ _).2 hpx))
        obtain rfl : R = j := HH.out j hlt hpx (fun i hi => Hj.out i hi)
        clear hpx HH HM
        generalize (nmB kind).getD j ByteArray.empty = X at *
        go_wp2_with fail
        refine HC.out.mono ?_
        rintro e w2 ⟨rfl, h2⟩
        have H2 := Lib.hid (HE.out.ext h2)
        clear h2
        go_wp2_with fail
        go_ret
        exact ⟨rfl, H2.out⟩
      · have HC := Lib.hid (clo_word _ P xa xb false pp pg n cap wr HPX.out HQX.out hn ((Lib.bytes_beq_false_iff _ _).2 hpx))
        have HJ2 : Hid (∀ i, i < j + 1 → (nmB kind).getD i ByteArray.empty ≠ P) := fun i hi => by
          by_cases e : i = j
          · subst e; exact hpx
          · exact Hj.out i (by omega)
        clear hpx
        generalize (nmB kind).getD j ByteArray.empty = X at *
        go_wp2_with fail
        refine HC.out.mono ?_
        rintro e w2 ⟨rfl, h2⟩
        have H2 := Lib.hid (HE.out.ext h2)
        clear h2
        go_wp2_with fail
        go_roundg (N - (j + 1))
        case measure => omega
        case rel => exact ⟨j + 1, by go_num, rfl, by omega, HJ2, H2⟩
    · obtain rfl : R = -1 := HM.out (fun i hi => Hj.out i (by omega))
      go_wp2_with fail
      go_ret
      exact ⟨rfl, HE.out⟩

end Go.Proofs.YthpekfpeoglbgaaGreatDoor
