/- The law Texts. -/
import Derived.Test.YtlipjgpfhmkdhaaDoorR41
import Derived.Test.YtlipjgpfhmkdhaaDoorR34
namespace Go.Proofs.YtlipjgpfhmkdhaaDoor
open Go.RowKit Go.Hw
set_option linter.unusedVariables false
set_option linter.unusedSimpArgs false

theorem good_uniq {s : ByteArray} {n d n' d' : Int} (h : Good s n d) (h' : Good s n' d') : n = n' ∧ d = d' := by
  have h1 := rd_good h
  rw [rd_good h'] at h1
  injection h1 with h1
  injection h1 with e1 e2
  exact ⟨e1.symm, e2.symm⟩
theorem parse_g {s : ByteArray} {n d : Int} (hg : Good s n d) (w : World) (hs : s.size ≤ 1000) (htab : Lib.TabIs Tryd.prog w "internal/strconv.uint64pow10" .u64 Lib.pow10Tab) (hA : AtoiH w) (hC : CutH w) : Calls Tryd.prog 38 #[.string s] w fun e w' => e = .returned (.tuple #[.agg #[.int .i64 n, .int .i64 d], .int .i64 0]) ∧ Ext w w' := by
  rcases parse_x s w hs htab hA hC with ⟨n', d', h, hc⟩ | ⟨h, _⟩
  · obtain ⟨rfl, rfl⟩ := good_uniq hg h
    exact hc
  · exact absurd hg (h n d)
theorem parse_b {s : ByteArray} (hg : ∀ n d, ¬ Good s n d) (w : World) (hs : s.size ≤ 1000) (htab : Lib.TabIs Tryd.prog w "internal/strconv.uint64pow10" .u64 Lib.pow10Tab) (hA : AtoiH w) (hC : CutH w) : Calls Tryd.prog 38 #[.string s] w fun e w' => e = .returned (.tuple #[.agg #[.int .i64 0, .int .i64 0], .int .i64 7]) ∧ Ext w w' := by
  rcases parse_x s w hs htab hA hC with ⟨n', d', h, hc⟩ | ⟨h, hc⟩
  · exact absurd h (hg n' d')
  · exact hc
theorem rparse_g {s : ByteArray} {n d : Int} (hg : Good s n d) (w : World) (hs : s.size ≤ 1000) : Calls Tryd.prog 39 #[.string s] w fun e w' => e = .returned (.tuple #[.agg #[.int .i64 n, .int .i64 d], .bool true]) ∧ Ext w w' := by
  rcases rparse_x s w hs with ⟨n', d', h, hc⟩ | ⟨h, _⟩
  · obtain ⟨rfl, rfl⟩ := good_uniq hg h
    exact hc
  · exact absurd hg (h n d)
theorem rparse_b {s : ByteArray} (hg : ∀ n d, ¬ Good s n d) (w : World) (hs : s.size ≤ 1000) : Calls Tryd.prog 39 #[.string s] w fun e w' => e = .returned (.tuple #[.agg #[.int .i64 0, .int .i64 0], .bool false]) ∧ Ext w w' := by
  rcases rparse_x s w hs with ⟨n', d', h, hc⟩ | ⟨h, hc⟩
  · exact absurd h (hg n' d')
  · exact hc
/-- The law. -/
theorem texts_law (a b : Int) (s : ByteArray) (w : World) (ha0 : -9223372036854775808 ≤ a) (ha1 : a ≤ 9223372036854775807) (hb0 : -9223372036854775808 ≤ b) (hb1 : b ≤ 9223372036854775807) (htab : Lib.TabIs Tryd.prog w "internal/strconv.uint64pow10" .u64 Lib.pow10Tab) (hA : AtoiH w) (hC : CutH w) : Calls Tryd.prog 11 #[.agg #[.int .i64 a, .int .i64 b], .string s] w fun e w' => e = .returned (.bool true) ∧ Ext w w' := by
  by_cases hs : 200 < s.size
  · exact texts_long a b s w htab hs
  · have hs' : s.size ≤ 1000 := by omega
    have cv : ∀ W, Ext w W → Calls Tryd.prog 16 #[.agg #[.int .i64 a, .int .i64 b]] W fun e w' => e = .returned (.bool (vfB a b)) ∧ Ext W w' := fun W _ => rvalid_x a b W
    cases hv : vfB a b with
    | true =>
      rw [hv] at cv
      have hg2 : Good (textS a b) a b := ⟨hv, rfl⟩
      have hsz : (textS a b).size ≤ 1000 := by
        have s1 := istr_size a ha0 ha1
        have s2 := istr_size b hb0 hb1
        unfold textS
        split
        · omega
        · rw [ByteArray.size_append, ByteArray.size_append]
          have : slash.size = 1 := rfl
          omega
      have ct : ∀ W, Ext w W → Calls Tryd.prog 40 #[.agg #[.int .i64 a, .int .i64 b]] W fun e w' => e = .returned (.tuple #[.string (textS a b), .int .i64 0]) ∧ Ext W w' := fun W hW => text_ok a b W ha0 ha1 hb0 hb1 (tab_ext htab hW) hv
      have cr : ∀ W, Ext w W → Calls Tryd.prog 38 #[.string (textS a b)] W fun e w' => e = .returned (.tuple #[.agg #[.int .i64 a, .int .i64 b], .int .i64 0]) ∧ Ext W w' := fun W hW => parse_g hg2 W hsz (tab_ext htab hW) (atoiH_ext hA hW) (cutH_ext hC hW)
      have cu : ∀ W, Ext w W → Calls Tryd.prog 41 #[.agg #[.int .i64 a, .int .i64 b]] W fun e w' => e = .returned (.string (textS a b)) ∧ Ext W w' := fun W _ => rtext_ok a b W ha0 ha1 hb0 hb1
      by_cases hg : ∃ n d, Good s n d
      · obtain ⟨n, d, hg⟩ := hg
        exact texts_gv a b s w htab hs n d (textS a b) (fun W hW => parse_g hg W hs' (tab_ext htab hW) (atoiH_ext hA hW) (cutH_ext hC hW)) (fun W hW => rparse_g hg W hs') cv ct cr cu
      · have hg' : ∀ n d, ¬ Good s n d := fun n d h => hg ⟨n, d, h⟩
        exact texts_bv a b s w htab hs 0 0 (textS a b) (fun W hW => parse_b hg' W hs' (tab_ext htab hW) (atoiH_ext hA hW) (cutH_ext hC hW)) (fun W hW => rparse_b hg' W hs') cv ct cr cu
    | false =>
      rw [hv] at cv
      have ct : ∀ W, Ext w W → Calls Tryd.prog 40 #[.agg #[.int .i64 a, .int .i64 b]] W fun e w' => e = .returned (.tuple #[.string ⟨#[]⟩, .int .i64 1]) ∧ Ext W w' := fun W hW => text_bad a b W ha0 ha1 hb0 hb1 hv
      by_cases hg : ∃ n d, Good s n d
      · obtain ⟨n, d, hg⟩ := hg
        exact texts_gi a b s w htab hs n d (fun W hW => parse_g hg W hs' (tab_ext htab hW) (atoiH_ext hA hW) (cutH_ext hC hW)) (fun W hW => rparse_g hg W hs') cv ct
      · have hg' : ∀ n d, ¬ Good s n d := fun n d h => hg ⟨n, d, h⟩
        exact texts_bi a b s w htab hs 0 0 (fun W hW => parse_b hg' W hs' (tab_ext htab hW) (atoiH_ext hA hW) (cutH_ext hC hW)) (fun W hW => rparse_b hg' W hs') cv ct

end Go.Proofs.YtlipjgpfhmkdhaaDoor
