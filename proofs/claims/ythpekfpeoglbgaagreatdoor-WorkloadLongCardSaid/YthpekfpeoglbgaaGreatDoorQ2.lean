/- Scripts read back. -/
import Derived.Test.YthpekfpeoglbgaaGreatDoorQ1
namespace Go.Proofs.YthpekfpeoglbgaaGreatDoor
open Go.RowKit Go.Hw
set_option linter.unusedVariables false
set_option linter.unusedSimpArgs false

open Classical in
/-- the operation that a line is the text of -/
noncomputable def opOf (kind : Int) (l : List UInt8) : Option OpM := if h : ∃ o, Good kind (bs l) o then some (Classical.choose h) else none
theorem opOf_some {kind : Int} {l : List UInt8} {o : OpM} (h : Good kind (bs l) o) : opOf kind l = some o := by
  unfold opOf
  rw [dif_pos ⟨o, h⟩]
  exact congrArg some (good_unique (Classical.choose_spec (p := fun o => Good kind (bs l) o) ⟨o, h⟩) h)
theorem opOf_none {kind : Int} {l : List UInt8} (h : ∀ o, ¬ Good kind (bs l) o) : opOf kind l = none := by
  unfold opOf
  rw [dif_neg (fun ⟨o, ho⟩ => h o ho)]
theorem opOf_good {kind : Int} {l : List UInt8} {o : OpM} (h : opOf kind l = some o) : Good kind (bs l) o := by
  unfold opOf at h
  split at h
  · rename_i hx
    injection h with h
    rw [← h]
    exact Classical.choose_spec hx
  · cases h
theorem opOf_text {kind : Int} {o : OpM} (h : validOp kind o = true) : opOf kind (opT kind o) = some o := opOf_some ⟨h, rfl⟩
structure PR where
  kind : Int
  ops : List OpM
  line : Int
  err : Int
/-- the lines of a script; f: how many may still come -/
noncomputable def lns (kind : Int) : Nat → List UInt8 → List OpM → PR
  | 0, rest, acc => if rest = [] then ⟨kind, acc, 0, 0⟩ else ⟨0, [], 2002, 4⟩
  | f + 1, rest, acc => if rest = [] then ⟨kind, acc, 0, 0⟩ else
    if (Lib.cut rest [10]).2.2 = true then
      (match opOf kind (Lib.cut rest [10]).1 with
      | some o => lns kind f (Lib.cut rest [10]).2.1 (acc ++ [o])
      | none => ⟨0, [], 2001 - (f : Int), 7⟩)
    else ⟨0, [], 2001 - (f : Int), 7⟩
theorem lns_nil (kind : Int) (f : Nat) (acc : List OpM) : lns kind f [] acc = ⟨kind, acc, 0, 0⟩ := by cases f <;> simp [lns]
theorem lns_full (kind : Int) (rest : List UInt8) (acc : List OpM) (h : rest ≠ []) : lns kind 0 rest acc = ⟨0, [], 2002, 4⟩ := by simp [lns, h]
theorem lns_step (kind : Int) (f : Nat) (rest : List UInt8) (acc : List OpM) (o : OpM) (h : rest ≠ []) (hc : (Lib.cut rest [10]).2.2 = true) (ho : opOf kind (Lib.cut rest [10]).1 = some o) :
    lns kind (f + 1) rest acc = lns kind f (Lib.cut rest [10]).2.1 (acc ++ [o]) := by
  rw [lns, if_neg h, if_pos hc, ho]
theorem lns_bad (kind : Int) (f : Nat) (rest : List UInt8) (acc : List OpM) (h : rest ≠ []) (hb : (Lib.cut rest [10]).2.2 = false ∨ opOf kind (Lib.cut rest [10]).1 = none) :
    lns kind (f + 1) rest acc = ⟨0, [], 2001 - (f : Int), 7⟩ := by
  rw [lns, if_neg h]
  rcases hb with hb | hb
  · rw [if_neg (by rw [hb]; simp)]
  · split
    · rw [hb]
    · rfl
theorem opT_no (kind : Int) (o : OpM) : (10 : UInt8) ∉ opT kind o := by
  rw [opT_jn]
  unfold jn
  intro h
  rcases List.mem_append.1 h with h | h
  · exact (wN_no kind o.code).2 h
  · obtain ⟨x, hx, h2⟩ := List.mem_flatMap.1 h
    obtain ⟨n, _, rfl⟩ := List.mem_map.1 hx
    rcases List.mem_cons.1 h2 with h2 | h2
    · exact absurd h2 (by decide)
    · exact (itoa_no n).2 h2
theorem lnT_cons (kind : Int) (o : OpM) (l : List OpM) : lnT kind (o :: l) = opT kind o ++ 10 :: lnT kind l := by simp [lnT]
theorem lns_text (kind : Int) : ∀ (l : List OpM) (f : Nat) (acc : List OpM), l.all (validOp kind) = true → l.length ≤ f → lns kind f (lnT kind l) acc = ⟨kind, acc ++ l, 0, 0⟩
  | [], f, acc, _, _ => by
    show lns kind f [] acc = _
    rw [lns_nil, List.append_nil]
  | o :: l, f, acc, hv, hl => by
    rw [List.all_cons, Bool.and_eq_true] at hv
    cases f with
    | zero => simp at hl
    | succ f =>
      rw [lnT_cons]
      have hc := cut_at 10 (opT kind o) (lnT kind l) (opT_no kind o)
      rw [lns_step kind f _ acc o (by simp) (by rw [hc]) (by rw [hc]; exact opOf_text hv.1), hc]
      rw [lns_text kind l f (acc ++ [o]) hv.2 (by simpa using hl)]
      simp
theorem lns_ok (kind : Int) : ∀ (f : Nat) (rest : List UInt8) (acc : List OpM), (lns kind f rest acc).err = 0 → ∃ l, (lns kind f rest acc) = ⟨kind, acc ++ l, 0, 0⟩ ∧ rest = lnT kind l ∧ l.all (validOp kind) = true ∧ l.length ≤ f
  | 0, rest, acc, h => by
    by_cases hr : rest = []
    · subst hr
      exact ⟨[], by rw [lns_nil, List.append_nil], rfl, rfl, Nat.le_refl _⟩
    · rw [lns_full kind rest acc hr] at h
      exact absurd h (by decide)
  | f + 1, rest, acc, h => by
    by_cases hr : rest = []
    · subst hr
      exact ⟨[], by rw [lns_nil, List.append_nil], rfl, rfl, Nat.zero_le _⟩
    · cases hc : (Lib.cut rest [10]).2.2 with
      | false => rw [lns_bad kind f rest acc hr (Or.inl hc)] at h; exact absurd (show (7 : Int) = 0 from h) (by decide)
      | true =>
        cases ho : opOf kind (Lib.cut rest [10]).1 with
        | none => rw [lns_bad kind f rest acc hr (Or.inr ho)] at h; exact absurd (show (7 : Int) = 0 from h) (by decide)
        | some o =>
          rw [lns_step kind f rest acc o hr hc ho] at h ⊢
          obtain ⟨l, h1, h2, h3, h4⟩ := lns_ok kind f _ _ h
          have hg := opOf_good ho
          have e1 : opT kind o = (Lib.cut rest [10]).1 := bs_inj hg.2
          refine ⟨o :: l, by rw [h1]; simp, ?_, by rw [List.all_cons, hg.1, h3]; rfl, by simpa using h4⟩
          rcases cut_cases 10 rest with ⟨a, b, e, _, hcc⟩ | ⟨_, hcc⟩
          · rw [lnT_cons, e1, ← h2, hcc]
            exact e
          · rw [hcc] at hc
            exact absurd (show false = true from hc) (by decide)
/-- the kind of a first line -/
def kOf (l : List UInt8) : Int := if l = [115, 99, 114, 105, 112, 116, 32] ++ kWd 1 then 1 else if l = [115, 99, 114, 105, 112, 116, 32] ++ kWd 2 then 2 else if l = [115, 99, 114, 105, 112, 116, 32] ++ kWd 3 then 3 else if l = [115, 99, 114, 105, 112, 116, 32] ++ kWd 4 then 4 else if l = [115, 99, 114, 105, 112, 116, 32] ++ kWd 5 then 5 else if l = [115, 99, 114, 105, 112, 116, 32] ++ kWd 6 then 6 else 0
theorem kOf_bd (l : List UInt8) : 0 ≤ kOf l ∧ kOf l ≤ 6 := by unfold kOf; (repeat' split) <;> omega
theorem kOf_eq {l : List UInt8} (h : kOf l ≠ 0) : l = [115, 99, 114, 105, 112, 116, 32] ++ kWd (kOf l) := by
  unfold kOf at h ⊢
  by_cases h1 : l = [115, 99, 114, 105, 112, 116, 32] ++ kWd 1
  · rw [if_pos h1]; exact h1
  rw [if_neg h1] at h ⊢
  by_cases h2 : l = [115, 99, 114, 105, 112, 116, 32] ++ kWd 2
  · rw [if_pos h2]; exact h2
  rw [if_neg h2] at h ⊢
  by_cases h3 : l = [115, 99, 114, 105, 112, 116, 32] ++ kWd 3
  · rw [if_pos h3]; exact h3
  rw [if_neg h3] at h ⊢
  by_cases h4 : l = [115, 99, 114, 105, 112, 116, 32] ++ kWd 4
  · rw [if_pos h4]; exact h4
  rw [if_neg h4] at h ⊢
  by_cases h5 : l = [115, 99, 114, 105, 112, 116, 32] ++ kWd 5
  · rw [if_pos h5]; exact h5
  rw [if_neg h5] at h ⊢
  by_cases h6 : l = [115, 99, 114, 105, 112, 116, 32] ++ kWd 6
  · rw [if_pos h6]; exact h6
  rw [if_neg h6] at h
  exact absurd rfl h
theorem kOf_word (kind : Int) (h : 1 ≤ kind ∧ kind ≤ 6) : kOf ([115, 99, 114, 105, 112, 116, 32] ++ kWd kind) = kind := by
  have : kind = 1 ∨ kind = 2 ∨ kind = 3 ∨ kind = 4 ∨ kind = 5 ∨ kind = 6 := by omega
  rcases this with rfl | rfl | rfl | rfl | rfl | rfl <;> decide
theorem kWd_no (kind : Int) : (10 : UInt8) ∉ [115, 99, 114, 105, 112, 116, 32] ++ kWd kind := by unfold kWd; (repeat' split) <;> decide
/-- the script with a text -/
noncomputable def parseT (l : List UInt8) : PR :=
  if 65536 < l.length then ⟨0, [], 0, 4⟩ else
  if (Lib.cut l [10]).2.2 = true ∧ kOf (Lib.cut l [10]).1 ≠ 0 then lns (kOf (Lib.cut l [10]).1) 2000 (Lib.cut l [10]).2.1 [] else ⟨0, [], 1, 7⟩
theorem scT_parse {kind : Int} {l : List OpM} (hv : validL kind l = true) (hl : (scT kind l).length ≤ 65536) : parseT (scT kind l) = ⟨kind, l, 0, 0⟩ := by
  unfold validL at hv
  simp only [Bool.and_eq_true, decide_eq_true_eq] at hv
  obtain ⟨⟨hkn, hll⟩, hall⟩ := hv
  have hkk : 1 ≤ kind ∧ kind ≤ 6 := by unfold knownB at hkn; exact of_decide_eq_true hkn
  have e : scT kind l = ([115, 99, 114, 105, 112, 116, 32] ++ kWd kind) ++ 10 :: lnT kind l := by unfold scT hdT; simp
  have hc := cut_at 10 ([115, 99, 114, 105, 112, 116, 32] ++ kWd kind) (lnT kind l) (kWd_no kind)
  have hk := kOf_word kind hkk
  unfold parseT
  rw [if_neg (by omega), e, hc]
  simp only
  rw [hk, if_pos ⟨trivial, by omega⟩, lns_text kind l 2000 [] hall hll, List.nil_append]
theorem parse_sc {l : List UInt8} (h : (parseT l).err = 0) : scT (parseT l).kind (parseT l).ops = l ∧ validL (parseT l).kind (parseT l).ops = true ∧ l.length ≤ 65536 := by
  by_cases hl : 65536 < l.length
  · unfold parseT at h
    rw [if_pos hl] at h
    exact absurd h (by decide)
  · by_cases hb : (Lib.cut l [10]).2.2 = true ∧ kOf (Lib.cut l [10]).1 ≠ 0
    · have e : parseT l = lns (kOf (Lib.cut l [10]).1) 2000 (Lib.cut l [10]).2.1 [] := by
        unfold parseT
        rw [if_neg hl, if_pos hb]
      rw [e] at h ⊢
      obtain ⟨ops, h1, h2, h3, h4⟩ := lns_ok _ _ _ _ h
      rw [h1]
      have hbd := kOf_bd (Lib.cut l [10]).1
      refine ⟨?_, ?_, by omega⟩
      · simp only [List.nil_append]
        unfold scT hdT
        have hq := kOf_eq hb.2
        rcases cut_cases 10 l with ⟨a, b, e2, _, hcc⟩ | ⟨_, hcc⟩
        · rw [hcc] at h2 hq ⊢
          simp only at h2 hq ⊢
          rw [← h2, ← hq, e2]
          simp
        · have := hb.1
          rw [hcc] at this
          exact absurd (show false = true from this) (by decide)
      · simp only [List.nil_append]
        unfold validL
        rw [h3]
        simp only [Bool.and_eq_true, decide_eq_true_eq, and_true]
        exact ⟨by unfold knownB; exact decide_eq_true (by omega), h4⟩
    · unfold parseT at h
      rw [if_neg hl, if_neg hb] at h
      exact absurd h (by decide)

end Go.Proofs.YthpekfpeoglbgaaGreatDoor
