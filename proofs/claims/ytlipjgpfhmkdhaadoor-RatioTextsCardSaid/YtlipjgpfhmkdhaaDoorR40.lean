/- ratio.Parse, whole. -/
import Derived.Test.YtlipjgpfhmkdhaaDoorR33
import Derived.Test.YtlipjgpfhmkdhaaDoorP5
namespace Go.Proofs.YtlipjgpfhmkdhaaDoor
open Go.RowKit Go.Hw
set_option linter.unusedVariables false
set_option linter.unusedSimpArgs false
def CutH (w : World) : Prop := ∀ s : ByteArray, s.size ≤ 1000 → ∀ W, Ext w W → Calls Tryd.prog 48 #[.string s, .string ⟨#[47]⟩] W fun e w' => e = .returned (.tuple #[.string ⟨(Lib.cut s.data.toList [47]).1.toArray⟩, .string ⟨(Lib.cut s.data.toList [47]).2.1.toArray⟩, .bool (Lib.cut s.data.toList [47]).2.2]) ∧ Ext W w'
def AtoiOk (w : World) (s : ByteArray) (v : Int) : Prop := ∀ W, Ext w W → Calls Tryd.prog 49 #[.string s] W fun e w' => e = .returned (.tuple #[.int .i64 v, .nilIface]) ∧ Ext W w'
def AtoiBad (w : World) (s : ByteArray) (v : Int) : Prop := ∀ W, Ext w W → Calls Tryd.prog 49 #[.string s] W fun e w' => ∃ q, e = .returned (.tuple #[.int .i64 v, .iface 79 (.pointer (some q))]) ∧ Ext W w'
def AtoiH (w : World) : Prop := ∀ s : ByteArray, s.size ≤ 1000 → (∃ v, Lib.atoiAll s.data.toList = .ok v ∧ AtoiOk w s v) ∨ ((∀ v, Lib.atoiAll s.data.toList ≠ .ok v) ∧ ∃ v, AtoiBad w s v)
theorem cutH_ext {w W : World} (h : CutH w) (hw : Ext w W) : CutH W := fun s hs V hV => h s hs V (hw.ext hV)
theorem atoiH_ext {w W : World} (h : AtoiH w) (hw : Ext w W) : AtoiH W := fun s hs => (h s hs).imp (fun ⟨v, h1, h2⟩ => ⟨v, h1, fun V hV => h2 V (hw.ext hV)⟩) (fun ⟨h1, v, h2⟩ => ⟨h1, v, fun V hV => h2 V (hw.ext hV)⟩)
theorem atoiOk_of {w : World} (h : AtoiH w) {s : ByteArray} (hs : s.size ≤ 1000) {v : Int} (hv : Lib.atoiAll s.data.toList = .ok v) : AtoiOk w s v := by
  rcases h s hs with ⟨v', h1, h2⟩ | ⟨h1, _⟩
  · rw [hv] at h1; injection h1 with h1; subst h1; exact h2
  · exact absurd hv (h1 v)
theorem vf_bds {n d : Int} (h : vfB n d = true) : -1073741824 ≤ n ∧ n ≤ 1073741824 ∧ 1 ≤ d ∧ d ≤ 1073741824 := by
  unfold vfB at h
  simp at h
  omega
theorem ba_eq {a b : ByteArray} (h : a.data.toList = b.data.toList) : a = b := by
  cases a; cases b; simp at h; simp [h]
theorem ba_mk (s : ByteArray) : (⟨s.data.toList.toArray⟩ : ByteArray) = s := by cases s; simp
theorem ne_toList {a b : ByteArray} (h : a ≠ b) : (a.toList == b.toList) = false := by
  rw [beq_eq_false_iff_ne]
  intro e
  refine h (ba_eq ?_)
  rw [Lib.toList_data, Lib.toList_data] at e
  exact e

/-- Parse with the cut known (true). -/
theorem parse_cut_true (s s1 s2 : ByteArray) (w : World) (htab : Lib.TabIs Tryd.prog w "internal/strconv.uint64pow10" .u64 Lib.pow10Tab) (hA : AtoiH w) (cut : ∀ W, Ext w W → Calls Tryd.prog 48 #[.string s, .string ⟨#[47]⟩] W fun e w' => e = .returned (.tuple #[.string s1, .string s2, .bool true]) ∧ Ext W w') (l1 : s1.size ≤ 1000) (l2 : s2.size ≤ 1000) :
    (∃ n d, Good s n d ∧ Lib.atoiAll s1.data.toList = .ok n ∧ Lib.atoiAll s2.data.toList = .ok d ∧ Calls Tryd.prog 38 #[.string s] w fun e w' => e = .returned (.tuple #[.agg #[.int .i64 n, .int .i64 d], .int .i64 0]) ∧ Ext w w') ∨ ((∀ n d, Lib.atoiAll s1.data.toList = .ok n → Lib.atoiAll s2.data.toList = .ok d → ¬ Good s n d) ∧ Calls Tryd.prog 38 #[.string s] w fun e w' => e = .returned (.tuple #[.agg #[.int .i64 0, .int .i64 0], .int .i64 7]) ∧ Ext w w') := by
  have hone : Lib.atoiAll (⟨#[49]⟩ : ByteArray).data.toList = .ok 1 := by decide +kernel
  rcases hA s1 l1 with ⟨n, a1, c1⟩ | ⟨a1, v, c1⟩
  · rcases hA s2 l2 with ⟨d, a2, c2⟩ | ⟨a2, v2, c2⟩
    · skip
      have b1 := Lib.atoiAll_bounds a1
      have b2 := Lib.atoiAll_bounds a2
      cases hv : vfB n d with
      | false =>
        right
        refine ⟨fun n' d' e1 e2 h => ?_, ?_⟩
        · rw [a1] at e1; injection e1 with e1; rw [a2] at e2; injection e2 with e2
          subst e1; subst e2
          exact Bool.false_ne_true (hv.symm.trans h.1)
        · exact parse_bad3_true s s1 s2 n d w cut c1 c2 (fun W hW => text_bad n d W b1.1 b1.2 b2.1 b2.2 hv)
      | true =>
        have ct : ∀ W, Ext w W → Calls Tryd.prog 40 #[.agg #[.int .i64 n, .int .i64 d]] W fun e w' => e = .returned (.tuple #[.string (textS n d), .int .i64 0]) ∧ Ext W w' := fun W hW => text_ok n d W b1.1 b1.2 b2.1 b2.2 (tab_ext htab hW) hv
        by_cases ht : textS n d = s
        · left
          rw [ht] at ct
          exact ⟨n, d, ⟨hv, ht⟩, a1, a2, parse_good_true s s1 s2 n d w cut c1 c2 ct⟩
        · right
          refine ⟨fun n' d' e1 e2 h => ?_, ?_⟩
          · rw [a1] at e1; injection e1 with e1; rw [a2] at e2; injection e2 with e2
            subst e1; subst e2
            exact ht h.2
          · exact parse_bad4_true s s1 s2 n d w cut c1 c2 _ ct (ne_toList ht)
    · right
      exact ⟨fun n' d' _ e2 _ => a2 d' e2, parse_bad2_true s s1 s2 n v2 w cut c1 c2⟩
  · right
    refine ⟨fun n' d' e1 _ _ => a1 n' e1, ?_⟩
    rcases hA s2 l2 with ⟨d, a2, c2⟩ | ⟨a2, v2, c2⟩
    · exact parse_bad1_true s s1 s2 v d w cut c1 (fun W hW => (c2 W hW).mono fun e w' ⟨h1, h2⟩ => ⟨⟨_, h1⟩, h2⟩)
    · exact parse_bad1_true s s1 s2 v v2 w cut c1 (fun W hW => (c2 W hW).mono fun e w' ⟨q, h1, h2⟩ => ⟨⟨_, h1⟩, h2⟩)

/-- Parse with the cut known (false). -/
theorem parse_cut_false (s s1 s2 : ByteArray) (w : World) (htab : Lib.TabIs Tryd.prog w "internal/strconv.uint64pow10" .u64 Lib.pow10Tab) (hA : AtoiH w) (cut : ∀ W, Ext w W → Calls Tryd.prog 48 #[.string s, .string ⟨#[47]⟩] W fun e w' => e = .returned (.tuple #[.string s1, .string s2, .bool false]) ∧ Ext W w') (l1 : s1.size ≤ 1000) :
    (∃ n d, Good s n d ∧ Lib.atoiAll s1.data.toList = .ok n ∧ d = 1 ∧ Calls Tryd.prog 38 #[.string s] w fun e w' => e = .returned (.tuple #[.agg #[.int .i64 n, .int .i64 d], .int .i64 0]) ∧ Ext w w') ∨ ((∀ n d, Lib.atoiAll s1.data.toList = .ok n → d = 1 → ¬ Good s n d) ∧ Calls Tryd.prog 38 #[.string s] w fun e w' => e = .returned (.tuple #[.agg #[.int .i64 0, .int .i64 0], .int .i64 7]) ∧ Ext w w') := by
  have hone : Lib.atoiAll (⟨#[49]⟩ : ByteArray).data.toList = .ok 1 := by decide +kernel
  rcases hA s1 l1 with ⟨n, a1, c1⟩ | ⟨a1, v, c1⟩
  · rcases hA ⟨#[49]⟩ (by decide) with ⟨d, a2, c2⟩ | ⟨a2, v2, c2⟩
    · rw [hone] at a2; injection a2 with a2; subst a2
      have b1 := Lib.atoiAll_bounds a1
      skip
      cases hv : vfB n 1 with
      | false =>
        right
        refine ⟨fun n' d' e1 e2 h => ?_, ?_⟩
        · rw [a1] at e1; injection e1 with e1; skip
          subst e1; subst e2
          exact Bool.false_ne_true (hv.symm.trans h.1)
        · exact parse_bad3_false s s1 s2 n 1 w cut c1 c2 (fun W hW => text_bad n 1 W b1.1 b1.2 (by omega) (by omega) hv)
      | true =>
        have ct : ∀ W, Ext w W → Calls Tryd.prog 40 #[.agg #[.int .i64 n, .int .i64 1]] W fun e w' => e = .returned (.tuple #[.string (textS n 1), .int .i64 0]) ∧ Ext W w' := fun W hW => text_ok n 1 W b1.1 b1.2 (by omega) (by omega) (tab_ext htab hW) hv
        by_cases ht : textS n 1 = s
        · left
          rw [ht] at ct
          exact ⟨n, 1, ⟨hv, ht⟩, a1, rfl, parse_good_false s s1 s2 n 1 w cut c1 c2 ct⟩
        · right
          refine ⟨fun n' d' e1 e2 h => ?_, ?_⟩
          · rw [a1] at e1; injection e1 with e1; skip
            subst e1; subst e2
            exact ht h.2
          · exact parse_bad4_false s s1 s2 n 1 w cut c1 c2 _ ct (ne_toList ht)
    · exact absurd hone (a2 1)
  · right
    refine ⟨fun n' d' e1 _ _ => a1 n' e1, ?_⟩
    rcases hA ⟨#[49]⟩ (by decide) with ⟨d, a2, c2⟩ | ⟨a2, v2, c2⟩
    · exact parse_bad1_false s s1 s2 v d w cut c1 (fun W hW => (c2 W hW).mono fun e w' ⟨h1, h2⟩ => ⟨⟨_, h1⟩, h2⟩)
    · exact parse_bad1_false s s1 s2 v v2 w cut c1 (fun W hW => (c2 W hW).mono fun e w' ⟨q, h1, h2⟩ => ⟨⟨_, h1⟩, h2⟩)

theorem cut_len (l : List UInt8) : (Lib.cut l [47]).1.length ≤ l.length ∧ (Lib.cut l [47]).2.1.length ≤ l.length := by
  unfold Lib.cut
  split
  · simp; omega
  · simp
theorem good_cut {s : ByteArray} {n d : Int} (h : Good s n d) : Lib.atoiAll (Lib.cut s.data.toList [47]).1 = .ok n ∧ (((Lib.cut s.data.toList [47]).2.2 = true ∧ Lib.atoiAll (Lib.cut s.data.toList [47]).2.1 = .ok d) ∨ ((Lib.cut s.data.toList [47]).2.2 = false ∧ d = 1)) := by
  obtain ⟨h1, rfl⟩ := h
  obtain ⟨v1, v2, v3, v4⟩ := vf_bds h1
  rw [text_list]
  by_cases hd : d = 1
  · rw [if_pos hd, List.append_nil, cut_none _ (itoa_no n)]
    exact ⟨atoi_itoa n v1 v2, Or.inr ⟨rfl, hd⟩⟩
  · rw [if_neg hd, cut_at _ _ (itoa_no n)]
    exact ⟨atoi_itoa n v1 v2, Or.inl ⟨rfl, atoi_itoa d (by omega) v4⟩⟩
/-- ratio.Parse. -/
theorem parse_x (s : ByteArray) (w : World) (hs : s.size ≤ 1000) (htab : Lib.TabIs Tryd.prog w "internal/strconv.uint64pow10" .u64 Lib.pow10Tab) (hA : AtoiH w) (hC : CutH w) :
    (∃ n d, Good s n d ∧ Calls Tryd.prog 38 #[.string s] w fun e w' => e = .returned (.tuple #[.agg #[.int .i64 n, .int .i64 d], .int .i64 0]) ∧ Ext w w') ∨ ((∀ n d, ¬ Good s n d) ∧ Calls Tryd.prog 38 #[.string s] w fun e w' => e = .returned (.tuple #[.agg #[.int .i64 0, .int .i64 0], .int .i64 7]) ∧ Ext w w') := by
  obtain ⟨k1, k2⟩ := cut_len s.data.toList
  have hlen : s.data.toList.length = s.size := rfl
  have cut := hC s hs
  have hg : ∀ n d, Good s n d → _ := fun n d h => good_cut h
  obtain ⟨⟨a, b, c⟩, hcut⟩ : ∃ q, Lib.cut s.data.toList [47] = q := ⟨_, rfl⟩
  rw [hcut] at cut k1 k2 hg
  dsimp only at cut k1 k2 hg
  cases c with
  | true =>
    rcases parse_cut_true s ⟨a.toArray⟩ ⟨b.toArray⟩ w htab hA cut (by show a.length ≤ 1000; omega) (by show b.length ≤ 1000; omega) with ⟨n, d, h, _, _, hc⟩ | ⟨h, hc⟩
    · exact Or.inl ⟨n, d, h, hc⟩
    · refine Or.inr ⟨fun n d h' => ?_, hc⟩
      obtain ⟨g1, ⟨_, g2⟩ | ⟨g2, _⟩⟩ := hg n d h'
      · exact h n d (by simpa using g1) (by simpa using g2) h'
      · cases g2
  | false =>
    rcases parse_cut_false s ⟨a.toArray⟩ ⟨b.toArray⟩ w htab hA cut (by show a.length ≤ 1000; omega) with ⟨n, d, h, _, _, hc⟩ | ⟨h, hc⟩
    · exact Or.inl ⟨n, d, h, hc⟩
    · refine Or.inr ⟨fun n d h' => ?_, hc⟩
      obtain ⟨g1, ⟨g2, _⟩ | ⟨_, g2⟩⟩ := hg n d h'
      · cases g2
      · exact h n d (by simpa using g1) g2 h'

end Go.Proofs.YtlipjgpfhmkdhaaDoor
