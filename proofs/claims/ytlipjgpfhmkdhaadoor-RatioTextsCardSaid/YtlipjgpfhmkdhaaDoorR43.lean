/- What the row's world gives: Cut and Atoi. -/
import Derived.Test.YtlipjgpfhmkdhaaDoorR42
import Derived.Test.YtlipjgpfhmkdhaaDoorShelf2
import Derived.Lib.AtoiErrMem
namespace Go.Proofs.YtlipjgpfhmkdhaaDoor
open Go.RowKit Go.Hw
set_option linter.unusedVariables false
set_option linter.unusedSimpArgs false

theorem below_ext {w w' : World} (h : Below w.heap.size w w') : Ext w w' := ⟨h.os, h.tape, h.output, h.size, fun k hk _ => h.block k hk⟩
theorem cell_ext {w w' : World} {a : Addr} {v : Value} (h : w.cell? a = some v) (hw : Ext w w') : w'.cell? a = some v := by
  unfold World.cell? at h ⊢
  have hlt : a.block < w.heap.size := by
    rcases Nat.lt_or_ge a.block w.heap.size with h' | h'
    · exact h'
    · rw [Array.getElem?_eq_none h'] at h; simp at h
  rw [hw.block a.block hlt (fun x => x)]
  exact h
theorem var_ext {w w' : World} {n : String} {cs : Array Value} (h : w.var? Tryd.prog n = some cs) (hw : Ext w w') : w'.var? Tryd.prog n = some cs := by
  unfold World.var? at *
  cases hg : Tryd.prog.globalNamed n with
  | none => simp [hg] at h
  | some g =>
    simp only [hg, Option.bind_some] at h ⊢
    have hlt : g < w.heap.size := by
      rcases Nat.lt_or_ge g w.heap.size with h' | h'
      · exact h'
      · rw [Array.getElem?_eq_none h'] at h; simp at h
    rw [hw.block g hlt (fun x => x)]
    exact h
theorem cutH_of {w : World} (h : ∃ m, w.cell? ⟨0, 0, none⟩ = some (.int .i64 m)) : CutH w := by
  obtain ⟨m, hm⟩ := h
  intro s hs W hW
  refine (Tryd.strings_Cut s ⟨#[47]⟩ m W (by omega) (cell_ext hm hW)).mono ?_
  rintro e w' ⟨rfl, n, rfl⟩
  exact ⟨rfl, (Upd.refl _ W).drewN' _⟩
theorem atoiH_of {w : World} {t1 t2 : TypeId} {p1 p2 : Value} (h1 : w.var? Tryd.prog "strconv.ErrSyntax" = some #[.iface t1 p1]) (h2 : w.var? Tryd.prog "strconv.ErrRange" = some #[.iface t2 p2]) : AtoiH w := by
  intro s hs
  have hm : s.size ≤ 281474976710656 := by omega
  cases ha : Lib.atoiAll s.data.toList with
  | ok v =>
    left
    refine ⟨v, rfl, fun W hW => ?_⟩
    refine (Tryd.strconv_Atoi_ok s (by omega) v ha W).mono ?_
    rintro e w' ⟨rfl, h⟩
    refine ⟨rfl, ?_⟩
    rcases h with rfl | ⟨t, rfl⟩
    · exact Upd.refl _ _
    · exact below_ext (Lib.bytesWorld_below _ _ _)
  | range =>
    right
    refine ⟨fun v h => (by cases h), Lib.atoiSat s.data.toList, fun W hW => ?_⟩
    refine (Tryd.strconv_Atoi_range_var s hm ha t2 p2 W (var_ext h2 hW)).mono ?_
    rintro e w' ⟨N, rfl, _, _, hb⟩
    exact ⟨_, rfl, below_ext hb⟩
  | _ =>
    right
    refine ⟨fun v h => (by cases h), 0, fun W hW => ?_⟩
    refine (Tryd.strconv_Atoi_syntax_var s hm ha t1 p1 W (var_ext h1 hW)).mono ?_
    rintro e w' ⟨N, rfl, _, _, hb⟩
    exact ⟨_, rfl, below_ext hb⟩

end Go.Proofs.YtlipjgpfhmkdhaaDoor
