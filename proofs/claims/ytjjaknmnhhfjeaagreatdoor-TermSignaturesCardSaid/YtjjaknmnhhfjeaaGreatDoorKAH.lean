/- The texts LX LN, one behind the other. -/
import Derived.Test.YtjjaknmnhhfjeaaGreatDoorKAB
import Derived.Test.YtjjaknmnhhfjeaaGreatDoorKAG
import Derived.Lib.Strings
import Derived.Lib.SlicesS
/- Names and keywords. -/
namespace Go.Proofs.YtjjaknmnhhfjeaaGreatDoor
open Go.RowKit Go.Hw
set_option linter.unusedVariables false
set_option linter.unusedSimpArgs false

/-! ### names and keywords, the plain part -/
def kwL : List (List UInt8) := [[97, 110, 100], [98, 111, 111, 108], [98, 111, 117, 110, 100], [100, 101, 115, 99], [101, 108, 115, 101], [102, 97, 108, 115, 101], [105, 102], [105, 110, 116], [105, 110, 118, 97, 114, 105, 97, 110, 116], [108, 111, 99, 97, 108], [108, 111, 103], [109, 97, 120], [109, 101, 97, 115, 117, 114, 101], [109, 105, 110], [110, 101, 119], [110, 105, 108], [110, 111, 116], [111, 112], [111, 114], [112, 111, 116, 101, 110, 116, 105, 97, 108], [112, 114, 111, 99], [114, 101, 116, 117, 114, 110], [114, 117, 108, 101], [115, 99, 114, 105, 112, 116], [115, 111, 114, 116], [115, 112, 101, 99], [116, 104, 105, 115], [116, 114, 117, 101], [116, 121, 112, 101], [118, 97, 114], [119, 104, 105, 108, 101]]
def rkL : List (List UInt8) := [[116, 121, 112, 101], [118, 97, 114], [112, 114, 111, 99], [108, 111, 99, 97, 108], [109, 101, 97, 115, 117, 114, 101], [105, 110, 118, 97, 114, 105, 97, 110, 116], [112, 111, 116, 101, 110, 116, 105, 97, 108], [98, 111, 117, 110, 100], [105, 102], [101, 108, 115, 101], [119, 104, 105, 108, 101], [114, 101, 116, 117, 114, 110], [110, 101, 119], [110, 105, 108], [116, 114, 117, 101], [102, 97, 108, 115, 101], [97, 110, 100], [111, 114], [110, 111, 116], [109, 97, 120], [109, 105, 110], [108, 111, 103], [105, 110, 116], [98, 111, 111, 108], [116, 104, 105, 115], [115, 111, 114, 116], [111, 112], [114, 117, 108, 101], [115, 112, 101, 99], [100, 101, 115, 99], [115, 99, 114, 105, 112, 116]]
def kwB (s : ByteArray) : Bool := decide (s.data.toList ∈ kwL)
def ltrN (c : Nat) : Bool := (decide (97 ≤ c) && decide (c ≤ 122)) || (decide (65 ≤ c) && decide (c ≤ 90))
def digN (c : Nat) : Bool := decide (48 ≤ c) && decide (c ≤ 57)
def wrdN (c : Nat) : Bool := ltrN c || digN c || decide (c = 95)
def clsN (c : Nat) : Nat := if c = 32 ∨ c = 9 ∨ c = 13 ∨ c = 10 then 1 else if ltrN c = true then 2 else if digN c = true then 3 else if c = 95 then 4 else 0
def nmB (s : ByteArray) : Bool := decide (0 < s.size ∧ s.size ≤ 40) && (ltrN ((s.data.toList.getD 0 0).toNat) && (s.data.toList.all (fun b => wrdN b.toNat) && !kwB s))
theorem rk_mem (l : List UInt8) : l ∈ rkL ↔ l ∈ kwL := by
  have h1 : ∀ x ∈ rkL, x ∈ kwL := by decide +kernel
  have h2 : ∀ x ∈ kwL, x ∈ rkL := by decide +kernel
  exact ⟨h1 l, h2 l⟩
theorem kw_len : kwL.length = 31 := by decide +kernel
theorem bs_kw : ∀ m : Fin 31, Lib.bsGo (fun t => Op.bytesLess (kwL.getD t []) (kwL.getD m.val [])) 31 0 31 = m.val := by decide +kernel
theorem ba_list {a b : ByteArray} (h : a.data.toList = b.data.toList) : a = b := by
  cases a; cases b
  rw [ByteArray.mk.injEq]
  exact Array.toList_inj.1 h
def kwS (t : Nat) : ByteArray := ⟨(kwL.getD t []).toArray⟩
theorem kwS_list (t : Nat) : (kwS t).data.toList = kwL.getD t [] := rfl
theorem bs_is (x : ByteArray) : decide (Lib.bsGo (fun t => Op.bytesLess (kwS t).toList x.toList) 31 0 31 < 31 ∧ kwS (Lib.bsGo (fun t => Op.bytesLess (kwS t).toList x.toList) 31 0 31) = x) = kwB x := by
  have e : (fun t => Op.bytesLess (kwS t).toList x.toList) = fun t => Op.bytesLess (kwL.getD t []) x.data.toList := by
    funext t; rw [Lib.toList_data, Lib.toList_data, kwS_list]
  rw [e]
  unfold kwB
  rw [decide_eq_decide]
  constructor
  · rintro ⟨h1, h2⟩
    generalize Lib.bsGo (fun t => Op.bytesLess (kwL.getD t []) x.data.toList) 31 0 31 = m at *
    rw [← h2, kwS_list]
    have : m < kwL.length := by rw [kw_len]; exact h1
    simp [this]
  · intro h
    obtain ⟨m, hm, he⟩ := List.getElem_of_mem h
    rw [kw_len] at hm
    have h1 := bs_kw ⟨m, hm⟩
    have h2 : kwL.getD m [] = x.data.toList := by
      rw [← he, List.getD_eq_getElem?_getD, List.getElem?_eq_getElem (by rw [kw_len]; exact hm)]; rfl
    dsimp only at h1
    rw [h2] at h1
    rw [h1]
    exact ⟨hm, ba_list (by rw [kwS_list, h2])⟩
abbrev AscT (w : World) : Prop := Lib.TabIs Tryz.prog w "strings.asciiSpace" .u8 Lib.asciiSpaceTab
theorem asc_ext {w w' : World} (h : AscT w) (hb : Ext w w') : AscT w' := by
  unfold AscT Lib.TabIs World.var? at *
  cases hg : Tryz.prog.globalNamed "strings.asciiSpace" with
  | none => simp [hg] at h
  | some g =>
    simp only [hg, Option.bind_some] at h ⊢
    have hlt : g < w.heap.size := by
      rcases Nat.lt_or_ge g w.heap.size with h' | h'
      · exact h'
      · rw [Array.getElem?_eq_none h'] at h; simp at h
    rw [hb.block g hlt (fun x => x)]
    exact h
def kwO : Obj := .cells (kwL.map fun l => Value.string ⟨l.toArray⟩).toArray 9
theorem fields_kw (s : ByteArray) (w : World) (h1 : Lib.fields s.data.toList = kwL) (h2 : (s.data.toList.all fun b => decide (b.toNat < 128)) = true) (h3 : s.size < 4294967281) (htab : AscT w) :
    Calls Tryz.prog 156 #[.string s] w fun e w' => e = .returned (.slice (some ⟨w.heap.size, 0, none⟩) 31 31) ∧ w' = w.alloc kwO := by
  have h := Tryz.strings_Fields s w h3 (fun j b hb => by have := List.all_eq_true.1 h2 b (List.mem_of_getElem? hb); simpa using this) htab
  rw [h1, kw_len] at h
  exact h
theorem keywords_x (w : World) (htab : AscT w) : Calls Tryz.prog 138 #[] w fun e w' => e = .returned (.slice (some ⟨w.heap.size, 0, none⟩) 31 31) ∧ w' = w.alloc kwO := by
  have HT := Lib.hid htab
  clear htab
  go_enter Tryz.func138, Tryz.ntmps138
  go_wp2_with fail
  refine (fields_kw _ _ (by kernel_rfl) (by kernel_rfl) (by decide +kernel) HT.out).mono ?_
  rintro e w' ⟨rfl, rfl⟩
  go_wp2_with fail
  go_ret
  exact ⟨rfl, rfl⟩
theorem kw_cells (w : World) (j : Nat) (hj : j < 31) : (w.alloc kwO).cell? ⟨w.heap.size, 0 + j, none⟩ = some (.string (kwS j)) := by
  refine cellRow (t := 9) (cs := (kwL.map fun l => Value.string ⟨l.toArray⟩).toArray) (alloc0 w kwO) _ _ ?_
  have : j < kwL.length := by rw [kw_len]; exact hj
  simp [kwS, this]
theorem isKeyword_x (x : ByteArray) (w : World) (htab : AscT w) : Calls Tryz.prog 119 #[.string x] w fun e w' => e = .returned (.bool (kwB x)) ∧ Ext w w' := by
  have HK := Lib.hid (keywords_x w htab)
  have HB := Lib.hid (Tryz.slices_BinarySearch_string w.heap.size 0 31 31 kwS x (w.alloc kwO) (by decide) (fun j hj => kw_cells w j hj))
  have HS := Lib.hid (bs_is x)
  have HE : Hid (Ext w (w.alloc kwO)) := (Upd.refl _ w).alloc _
  clear htab
  go_enter Tryz.func119, Tryz.ntmps119
  go_wp2_with fail
  refine HK.out.mono ?_
  rintro e w' ⟨rfl, rfl⟩
  go_wp2_with fail
  refine HB.out.mono ?_
  rintro e w' ⟨rfl, q, rfl⟩
  rw [HS.out]
  generalize Lib.bsGo (fun t => Op.bytesLess (kwS t).toList x.toList) 31 0 31 = Y at *
  go_wp2_with fail
  go_ret
  exact ⟨rfl, HE.out.drewN' _⟩
set_option maxRecDepth 100000 in
set_option maxHeartbeats 1000000 in
theorem class_x (c : Nat) (w : World) (hc : c ≤ 255) : Calls Tryz.prog 98 #[.int .u8 c] w fun e w' => e = .returned (.int .i64 (clsN c : Nat)) ∧ w = w' := by
  by_cases h : 0 ≤ c ∧ c ≤ 8
  · obtain ⟨h1, h2⟩ := h
    have e32 : ((c : Int) == 32) = false := beq_eq_false_iff_ne.2 (by omega)
    have d32 : ¬ (c = 32) := by omega
    have e9 : ((c : Int) == 9) = false := beq_eq_false_iff_ne.2 (by omega)
    have d9 : ¬ (c = 9) := by omega
    have e13 : ((c : Int) == 13) = false := beq_eq_false_iff_ne.2 (by omega)
    have d13 : ¬ (c = 13) := by omega
    have e10 : ((c : Int) == 10) = false := beq_eq_false_iff_ne.2 (by omega)
    have d10 : ¬ (c = 10) := by omega
    have e95 : ((c : Int) == 95) = false := beq_eq_false_iff_ne.2 (by omega)
    have d95 : ¬ (c = 95) := by omega
    have g97 : ¬ (97 ≤ (c : Int)) := by omega
    have ng97 : ¬ (97 ≤ c) := by omega
    have l122 : ((c : Int) ≤ 122) := by omega
    have nl122 : (c ≤ 122) := by omega
    have g65 : ¬ (65 ≤ (c : Int)) := by omega
    have ng65 : ¬ (65 ≤ c) := by omega
    have l90 : ((c : Int) ≤ 90) := by omega
    have nl90 : (c ≤ 90) := by omega
    have g48 : ¬ (48 ≤ (c : Int)) := by omega
    have ng48 : ¬ (48 ≤ c) := by omega
    have l57 : ((c : Int) ≤ 57) := by omega
    have nl57 : (c ≤ 57) := by omega
    rw [show clsN c = 0 by { unfold clsN; simp [ltrN, digN, *] }]
    clear h1 h2 hc
    go_enter Tryz.func98, Tryz.ntmps98
    go_wp2_with fail
    go_ret
    exact ⟨rfl, rfl⟩
  by_cases h : c = 9
  · subst h
    go_enter Tryz.func98, Tryz.ntmps98
    go_wp2_with fail
    go_ret
    exact ⟨rfl, rfl⟩
  by_cases h : c = 10
  · subst h
    go_enter Tryz.func98, Tryz.ntmps98
    go_wp2_with fail
    go_ret
    exact ⟨rfl, rfl⟩
  by_cases h : 11 ≤ c ∧ c ≤ 12
  · obtain ⟨h1, h2⟩ := h
    have e32 : ((c : Int) == 32) = false := beq_eq_false_iff_ne.2 (by omega)
    have d32 : ¬ (c = 32) := by omega
    have e9 : ((c : Int) == 9) = false := beq_eq_false_iff_ne.2 (by omega)
    have d9 : ¬ (c = 9) := by omega
    have e13 : ((c : Int) == 13) = false := beq_eq_false_iff_ne.2 (by omega)
    have d13 : ¬ (c = 13) := by omega
    have e10 : ((c : Int) == 10) = false := beq_eq_false_iff_ne.2 (by omega)
    have d10 : ¬ (c = 10) := by omega
    have e95 : ((c : Int) == 95) = false := beq_eq_false_iff_ne.2 (by omega)
    have d95 : ¬ (c = 95) := by omega
    have g97 : ¬ (97 ≤ (c : Int)) := by omega
    have ng97 : ¬ (97 ≤ c) := by omega
    have l122 : ((c : Int) ≤ 122) := by omega
    have nl122 : (c ≤ 122) := by omega
    have g65 : ¬ (65 ≤ (c : Int)) := by omega
    have ng65 : ¬ (65 ≤ c) := by omega
    have l90 : ((c : Int) ≤ 90) := by omega
    have nl90 : (c ≤ 90) := by omega
    have g48 : ¬ (48 ≤ (c : Int)) := by omega
    have ng48 : ¬ (48 ≤ c) := by omega
    have l57 : ((c : Int) ≤ 57) := by omega
    have nl57 : (c ≤ 57) := by omega
    rw [show clsN c = 0 by { unfold clsN; simp [ltrN, digN, *] }]
    clear h1 h2 hc
    go_enter Tryz.func98, Tryz.ntmps98
    go_wp2_with fail
    go_ret
    exact ⟨rfl, rfl⟩
  by_cases h : c = 13
  · subst h
    go_enter Tryz.func98, Tryz.ntmps98
    go_wp2_with fail
    go_ret
    exact ⟨rfl, rfl⟩
  by_cases h : 14 ≤ c ∧ c ≤ 31
  · obtain ⟨h1, h2⟩ := h
    have e32 : ((c : Int) == 32) = false := beq_eq_false_iff_ne.2 (by omega)
    have d32 : ¬ (c = 32) := by omega
    have e9 : ((c : Int) == 9) = false := beq_eq_false_iff_ne.2 (by omega)
    have d9 : ¬ (c = 9) := by omega
    have e13 : ((c : Int) == 13) = false := beq_eq_false_iff_ne.2 (by omega)
    have d13 : ¬ (c = 13) := by omega
    have e10 : ((c : Int) == 10) = false := beq_eq_false_iff_ne.2 (by omega)
    have d10 : ¬ (c = 10) := by omega
    have e95 : ((c : Int) == 95) = false := beq_eq_false_iff_ne.2 (by omega)
    have d95 : ¬ (c = 95) := by omega
    have g97 : ¬ (97 ≤ (c : Int)) := by omega
    have ng97 : ¬ (97 ≤ c) := by omega
    have l122 : ((c : Int) ≤ 122) := by omega
    have nl122 : (c ≤ 122) := by omega
    have g65 : ¬ (65 ≤ (c : Int)) := by omega
    have ng65 : ¬ (65 ≤ c) := by omega
    have l90 : ((c : Int) ≤ 90) := by omega
    have nl90 : (c ≤ 90) := by omega
    have g48 : ¬ (48 ≤ (c : Int)) := by omega
    have ng48 : ¬ (48 ≤ c) := by omega
    have l57 : ((c : Int) ≤ 57) := by omega
    have nl57 : (c ≤ 57) := by omega
    rw [show clsN c = 0 by { unfold clsN; simp [ltrN, digN, *] }]
    clear h1 h2 hc
    go_enter Tryz.func98, Tryz.ntmps98
    go_wp2_with fail
    go_ret
    exact ⟨rfl, rfl⟩
  by_cases h : c = 32
  · subst h
    go_enter Tryz.func98, Tryz.ntmps98
    go_wp2_with fail
    go_ret
    exact ⟨rfl, rfl⟩
  by_cases h : 33 ≤ c ∧ c ≤ 47
  · obtain ⟨h1, h2⟩ := h
    have e32 : ((c : Int) == 32) = false := beq_eq_false_iff_ne.2 (by omega)
    have d32 : ¬ (c = 32) := by omega
    have e9 : ((c : Int) == 9) = false := beq_eq_false_iff_ne.2 (by omega)
    have d9 : ¬ (c = 9) := by omega
    have e13 : ((c : Int) == 13) = false := beq_eq_false_iff_ne.2 (by omega)
    have d13 : ¬ (c = 13) := by omega
    have e10 : ((c : Int) == 10) = false := beq_eq_false_iff_ne.2 (by omega)
    have d10 : ¬ (c = 10) := by omega
    have e95 : ((c : Int) == 95) = false := beq_eq_false_iff_ne.2 (by omega)
    have d95 : ¬ (c = 95) := by omega
    have g97 : ¬ (97 ≤ (c : Int)) := by omega
    have ng97 : ¬ (97 ≤ c) := by omega
    have l122 : ((c : Int) ≤ 122) := by omega
    have nl122 : (c ≤ 122) := by omega
    have g65 : ¬ (65 ≤ (c : Int)) := by omega
    have ng65 : ¬ (65 ≤ c) := by omega
    have l90 : ((c : Int) ≤ 90) := by omega
    have nl90 : (c ≤ 90) := by omega
    have g48 : ¬ (48 ≤ (c : Int)) := by omega
    have ng48 : ¬ (48 ≤ c) := by omega
    have l57 : ((c : Int) ≤ 57) := by omega
    have nl57 : (c ≤ 57) := by omega
    rw [show clsN c = 0 by { unfold clsN; simp [ltrN, digN, *] }]
    clear h1 h2 hc
    go_enter Tryz.func98, Tryz.ntmps98
    go_wp2_with fail
    go_ret
    exact ⟨rfl, rfl⟩
  by_cases h : 48 ≤ c ∧ c ≤ 57
  · obtain ⟨h1, h2⟩ := h
    have e32 : ((c : Int) == 32) = false := beq_eq_false_iff_ne.2 (by omega)
    have d32 : ¬ (c = 32) := by omega
    have e9 : ((c : Int) == 9) = false := beq_eq_false_iff_ne.2 (by omega)
    have d9 : ¬ (c = 9) := by omega
    have e13 : ((c : Int) == 13) = false := beq_eq_false_iff_ne.2 (by omega)
    have d13 : ¬ (c = 13) := by omega
    have e10 : ((c : Int) == 10) = false := beq_eq_false_iff_ne.2 (by omega)
    have d10 : ¬ (c = 10) := by omega
    have e95 : ((c : Int) == 95) = false := beq_eq_false_iff_ne.2 (by omega)
    have d95 : ¬ (c = 95) := by omega
    have g97 : ¬ (97 ≤ (c : Int)) := by omega
    have ng97 : ¬ (97 ≤ c) := by omega
    have l122 : ((c : Int) ≤ 122) := by omega
    have nl122 : (c ≤ 122) := by omega
    have g65 : ¬ (65 ≤ (c : Int)) := by omega
    have ng65 : ¬ (65 ≤ c) := by omega
    have l90 : ((c : Int) ≤ 90) := by omega
    have nl90 : (c ≤ 90) := by omega
    have g48 : (48 ≤ (c : Int)) := by omega
    have ng48 : (48 ≤ c) := by omega
    have l57 : ((c : Int) ≤ 57) := by omega
    have nl57 : (c ≤ 57) := by omega
    rw [show clsN c = 3 by { unfold clsN; simp [ltrN, digN, *] }]
    clear h1 h2 hc
    go_enter Tryz.func98, Tryz.ntmps98
    go_wp2_with fail
    go_ret
    exact ⟨rfl, rfl⟩
  by_cases h : 58 ≤ c ∧ c ≤ 64
  · obtain ⟨h1, h2⟩ := h
    have e32 : ((c : Int) == 32) = false := beq_eq_false_iff_ne.2 (by omega)
    have d32 : ¬ (c = 32) := by omega
    have e9 : ((c : Int) == 9) = false := beq_eq_false_iff_ne.2 (by omega)
    have d9 : ¬ (c = 9) := by omega
    have e13 : ((c : Int) == 13) = false := beq_eq_false_iff_ne.2 (by omega)
    have d13 : ¬ (c = 13) := by omega
    have e10 : ((c : Int) == 10) = false := beq_eq_false_iff_ne.2 (by omega)
    have d10 : ¬ (c = 10) := by omega
    have e95 : ((c : Int) == 95) = false := beq_eq_false_iff_ne.2 (by omega)
    have d95 : ¬ (c = 95) := by omega
    have g97 : ¬ (97 ≤ (c : Int)) := by omega
    have ng97 : ¬ (97 ≤ c) := by omega
    have l122 : ((c : Int) ≤ 122) := by omega
    have nl122 : (c ≤ 122) := by omega
    have g65 : ¬ (65 ≤ (c : Int)) := by omega
    have ng65 : ¬ (65 ≤ c) := by omega
    have l90 : ((c : Int) ≤ 90) := by omega
    have nl90 : (c ≤ 90) := by omega
    have g48 : (48 ≤ (c : Int)) := by omega
    have ng48 : (48 ≤ c) := by omega
    have l57 : ¬ ((c : Int) ≤ 57) := by omega
    have nl57 : ¬ (c ≤ 57) := by omega
    rw [show clsN c = 0 by { unfold clsN; simp [ltrN, digN, *] }]
    clear h1 h2 hc
    go_enter Tryz.func98, Tryz.ntmps98
    go_wp2_with fail
    go_ret
    exact ⟨rfl, rfl⟩
  by_cases h : 65 ≤ c ∧ c ≤ 90
  · obtain ⟨h1, h2⟩ := h
    have e32 : ((c : Int) == 32) = false := beq_eq_false_iff_ne.2 (by omega)
    have d32 : ¬ (c = 32) := by omega
    have e9 : ((c : Int) == 9) = false := beq_eq_false_iff_ne.2 (by omega)
    have d9 : ¬ (c = 9) := by omega
    have e13 : ((c : Int) == 13) = false := beq_eq_false_iff_ne.2 (by omega)
    have d13 : ¬ (c = 13) := by omega
    have e10 : ((c : Int) == 10) = false := beq_eq_false_iff_ne.2 (by omega)
    have d10 : ¬ (c = 10) := by omega
    have e95 : ((c : Int) == 95) = false := beq_eq_false_iff_ne.2 (by omega)
    have d95 : ¬ (c = 95) := by omega
    have g97 : ¬ (97 ≤ (c : Int)) := by omega
    have ng97 : ¬ (97 ≤ c) := by omega
    have l122 : ((c : Int) ≤ 122) := by omega
    have nl122 : (c ≤ 122) := by omega
    have g65 : (65 ≤ (c : Int)) := by omega
    have ng65 : (65 ≤ c) := by omega
    have l90 : ((c : Int) ≤ 90) := by omega
    have nl90 : (c ≤ 90) := by omega
    have g48 : (48 ≤ (c : Int)) := by omega
    have ng48 : (48 ≤ c) := by omega
    have l57 : ¬ ((c : Int) ≤ 57) := by omega
    have nl57 : ¬ (c ≤ 57) := by omega
    rw [show clsN c = 2 by { unfold clsN; simp [ltrN, digN, *] }]
    clear h1 h2 hc
    go_enter Tryz.func98, Tryz.ntmps98
    go_wp2_with fail
    go_ret
    exact ⟨rfl, rfl⟩
  by_cases h : 91 ≤ c ∧ c ≤ 94
  · obtain ⟨h1, h2⟩ := h
    have e32 : ((c : Int) == 32) = false := beq_eq_false_iff_ne.2 (by omega)
    have d32 : ¬ (c = 32) := by omega
    have e9 : ((c : Int) == 9) = false := beq_eq_false_iff_ne.2 (by omega)
    have d9 : ¬ (c = 9) := by omega
    have e13 : ((c : Int) == 13) = false := beq_eq_false_iff_ne.2 (by omega)
    have d13 : ¬ (c = 13) := by omega
    have e10 : ((c : Int) == 10) = false := beq_eq_false_iff_ne.2 (by omega)
    have d10 : ¬ (c = 10) := by omega
    have e95 : ((c : Int) == 95) = false := beq_eq_false_iff_ne.2 (by omega)
    have d95 : ¬ (c = 95) := by omega
    have g97 : ¬ (97 ≤ (c : Int)) := by omega
    have ng97 : ¬ (97 ≤ c) := by omega
    have l122 : ((c : Int) ≤ 122) := by omega
    have nl122 : (c ≤ 122) := by omega
    have g65 : (65 ≤ (c : Int)) := by omega
    have ng65 : (65 ≤ c) := by omega
    have l90 : ¬ ((c : Int) ≤ 90) := by omega
    have nl90 : ¬ (c ≤ 90) := by omega
    have g48 : (48 ≤ (c : Int)) := by omega
    have ng48 : (48 ≤ c) := by omega
    have l57 : ¬ ((c : Int) ≤ 57) := by omega
    have nl57 : ¬ (c ≤ 57) := by omega
    rw [show clsN c = 0 by { unfold clsN; simp [ltrN, digN, *] }]
    clear h1 h2 hc
    go_enter Tryz.func98, Tryz.ntmps98
    go_wp2_with fail
    go_ret
    exact ⟨rfl, rfl⟩
  by_cases h : c = 95
  · subst h
    go_enter Tryz.func98, Tryz.ntmps98
    go_wp2_with fail
    go_ret
    exact ⟨rfl, rfl⟩
  by_cases h : c = 96
  · subst h
    go_enter Tryz.func98, Tryz.ntmps98
    go_wp2_with fail
    go_ret
    exact ⟨rfl, rfl⟩
  by_cases h : 97 ≤ c ∧ c ≤ 122
  · obtain ⟨h1, h2⟩ := h
    have e32 : ((c : Int) == 32) = false := beq_eq_false_iff_ne.2 (by omega)
    have d32 : ¬ (c = 32) := by omega
    have e9 : ((c : Int) == 9) = false := beq_eq_false_iff_ne.2 (by omega)
    have d9 : ¬ (c = 9) := by omega
    have e13 : ((c : Int) == 13) = false := beq_eq_false_iff_ne.2 (by omega)
    have d13 : ¬ (c = 13) := by omega
    have e10 : ((c : Int) == 10) = false := beq_eq_false_iff_ne.2 (by omega)
    have d10 : ¬ (c = 10) := by omega
    have e95 : ((c : Int) == 95) = false := beq_eq_false_iff_ne.2 (by omega)
    have d95 : ¬ (c = 95) := by omega
    have g97 : (97 ≤ (c : Int)) := by omega
    have ng97 : (97 ≤ c) := by omega
    have l122 : ((c : Int) ≤ 122) := by omega
    have nl122 : (c ≤ 122) := by omega
    have g65 : (65 ≤ (c : Int)) := by omega
    have ng65 : (65 ≤ c) := by omega
    have l90 : ¬ ((c : Int) ≤ 90) := by omega
    have nl90 : ¬ (c ≤ 90) := by omega
    have g48 : (48 ≤ (c : Int)) := by omega
    have ng48 : (48 ≤ c) := by omega
    have l57 : ¬ ((c : Int) ≤ 57) := by omega
    have nl57 : ¬ (c ≤ 57) := by omega
    rw [show clsN c = 2 by { unfold clsN; simp [ltrN, digN, *] }]
    clear h1 h2 hc
    go_enter Tryz.func98, Tryz.ntmps98
    go_wp2_with fail
    go_ret
    exact ⟨rfl, rfl⟩
  by_cases h : 123 ≤ c ∧ c ≤ 255
  · obtain ⟨h1, h2⟩ := h
    have e32 : ((c : Int) == 32) = false := beq_eq_false_iff_ne.2 (by omega)
    have d32 : ¬ (c = 32) := by omega
    have e9 : ((c : Int) == 9) = false := beq_eq_false_iff_ne.2 (by omega)
    have d9 : ¬ (c = 9) := by omega
    have e13 : ((c : Int) == 13) = false := beq_eq_false_iff_ne.2 (by omega)
    have d13 : ¬ (c = 13) := by omega
    have e10 : ((c : Int) == 10) = false := beq_eq_false_iff_ne.2 (by omega)
    have d10 : ¬ (c = 10) := by omega
    have e95 : ((c : Int) == 95) = false := beq_eq_false_iff_ne.2 (by omega)
    have d95 : ¬ (c = 95) := by omega
    have g97 : (97 ≤ (c : Int)) := by omega
    have ng97 : (97 ≤ c) := by omega
    have l122 : ¬ ((c : Int) ≤ 122) := by omega
    have nl122 : ¬ (c ≤ 122) := by omega
    have g65 : (65 ≤ (c : Int)) := by omega
    have ng65 : (65 ≤ c) := by omega
    have l90 : ¬ ((c : Int) ≤ 90) := by omega
    have nl90 : ¬ (c ≤ 90) := by omega
    have g48 : (48 ≤ (c : Int)) := by omega
    have ng48 : (48 ≤ c) := by omega
    have l57 : ¬ ((c : Int) ≤ 57) := by omega
    have nl57 : ¬ (c ≤ 57) := by omega
    rw [show clsN c = 0 by { unfold clsN; simp [ltrN, digN, *] }]
    clear h1 h2 hc
    go_enter Tryz.func98, Tryz.ntmps98
    go_wp2_with fail
    go_ret
    exact ⟨rfl, rfl⟩
  omega

set_option maxHeartbeats 1000000 in
theorem letter_x (c : Nat) (w : World) (hc : c ≤ 255) : Calls Tryz.prog 109 #[.int .u8 c] w fun e w' => e = .returned (.bool (ltrN c)) ∧ w = w' := by
  by_cases h : 0 ≤ c ∧ c ≤ 8
  · obtain ⟨h1, h2⟩ := h
    have g97 : ¬ (97 ≤ (c : Int)) := by omega
    have ng97 : ¬ (97 ≤ c) := by omega
    have l122 : ((c : Int) ≤ 122) := by omega
    have nl122 : (c ≤ 122) := by omega
    have g65 : ¬ (65 ≤ (c : Int)) := by omega
    have ng65 : ¬ (65 ≤ c) := by omega
    have l90 : ((c : Int) ≤ 90) := by omega
    have nl90 : (c ≤ 90) := by omega
    rw [show ltrN c = false by { unfold ltrN; simp [*] }]
    clear h1 h2 hc
    go_enter Tryz.func109, Tryz.ntmps109
    go_wp2_with fail
    go_ret
    exact ⟨rfl, rfl⟩
  by_cases h : c = 9
  · subst h
    go_enter Tryz.func109, Tryz.ntmps109
    go_wp2_with fail
    go_ret
    exact ⟨rfl, rfl⟩
  by_cases h : c = 10
  · subst h
    go_enter Tryz.func109, Tryz.ntmps109
    go_wp2_with fail
    go_ret
    exact ⟨rfl, rfl⟩
  by_cases h : 11 ≤ c ∧ c ≤ 12
  · obtain ⟨h1, h2⟩ := h
    have g97 : ¬ (97 ≤ (c : Int)) := by omega
    have ng97 : ¬ (97 ≤ c) := by omega
    have l122 : ((c : Int) ≤ 122) := by omega
    have nl122 : (c ≤ 122) := by omega
    have g65 : ¬ (65 ≤ (c : Int)) := by omega
    have ng65 : ¬ (65 ≤ c) := by omega
    have l90 : ((c : Int) ≤ 90) := by omega
    have nl90 : (c ≤ 90) := by omega
    rw [show ltrN c = false by { unfold ltrN; simp [*] }]
    clear h1 h2 hc
    go_enter Tryz.func109, Tryz.ntmps109
    go_wp2_with fail
    go_ret
    exact ⟨rfl, rfl⟩
  by_cases h : c = 13
  · subst h
    go_enter Tryz.func109, Tryz.ntmps109
    go_wp2_with fail
    go_ret
    exact ⟨rfl, rfl⟩
  by_cases h : 14 ≤ c ∧ c ≤ 31
  · obtain ⟨h1, h2⟩ := h
    have g97 : ¬ (97 ≤ (c : Int)) := by omega
    have ng97 : ¬ (97 ≤ c) := by omega
    have l122 : ((c : Int) ≤ 122) := by omega
    have nl122 : (c ≤ 122) := by omega
    have g65 : ¬ (65 ≤ (c : Int)) := by omega
    have ng65 : ¬ (65 ≤ c) := by omega
    have l90 : ((c : Int) ≤ 90) := by omega
    have nl90 : (c ≤ 90) := by omega
    rw [show ltrN c = false by { unfold ltrN; simp [*] }]
    clear h1 h2 hc
    go_enter Tryz.func109, Tryz.ntmps109
    go_wp2_with fail
    go_ret
    exact ⟨rfl, rfl⟩
  by_cases h : c = 32
  · subst h
    go_enter Tryz.func109, Tryz.ntmps109
    go_wp2_with fail
    go_ret
    exact ⟨rfl, rfl⟩
  by_cases h : 33 ≤ c ∧ c ≤ 47
  · obtain ⟨h1, h2⟩ := h
    have g97 : ¬ (97 ≤ (c : Int)) := by omega
    have ng97 : ¬ (97 ≤ c) := by omega
    have l122 : ((c : Int) ≤ 122) := by omega
    have nl122 : (c ≤ 122) := by omega
    have g65 : ¬ (65 ≤ (c : Int)) := by omega
    have ng65 : ¬ (65 ≤ c) := by omega
    have l90 : ((c : Int) ≤ 90) := by omega
    have nl90 : (c ≤ 90) := by omega
    rw [show ltrN c = false by { unfold ltrN; simp [*] }]
    clear h1 h2 hc
    go_enter Tryz.func109, Tryz.ntmps109
    go_wp2_with fail
    go_ret
    exact ⟨rfl, rfl⟩
  by_cases h : 48 ≤ c ∧ c ≤ 57
  · obtain ⟨h1, h2⟩ := h
    have g97 : ¬ (97 ≤ (c : Int)) := by omega
    have ng97 : ¬ (97 ≤ c) := by omega
    have l122 : ((c : Int) ≤ 122) := by omega
    have nl122 : (c ≤ 122) := by omega
    have g65 : ¬ (65 ≤ (c : Int)) := by omega
    have ng65 : ¬ (65 ≤ c) := by omega
    have l90 : ((c : Int) ≤ 90) := by omega
    have nl90 : (c ≤ 90) := by omega
    rw [show ltrN c = false by { unfold ltrN; simp [*] }]
    clear h1 h2 hc
    go_enter Tryz.func109, Tryz.ntmps109
    go_wp2_with fail
    go_ret
    exact ⟨rfl, rfl⟩
  by_cases h : 58 ≤ c ∧ c ≤ 64
  · obtain ⟨h1, h2⟩ := h
    have g97 : ¬ (97 ≤ (c : Int)) := by omega
    have ng97 : ¬ (97 ≤ c) := by omega
    have l122 : ((c : Int) ≤ 122) := by omega
    have nl122 : (c ≤ 122) := by omega
    have g65 : ¬ (65 ≤ (c : Int)) := by omega
    have ng65 : ¬ (65 ≤ c) := by omega
    have l90 : ((c : Int) ≤ 90) := by omega
    have nl90 : (c ≤ 90) := by omega
    rw [show ltrN c = false by { unfold ltrN; simp [*] }]
    clear h1 h2 hc
    go_enter Tryz.func109, Tryz.ntmps109
    go_wp2_with fail
    go_ret
    exact ⟨rfl, rfl⟩
  by_cases h : 65 ≤ c ∧ c ≤ 90
  · obtain ⟨h1, h2⟩ := h
    have g97 : ¬ (97 ≤ (c : Int)) := by omega
    have ng97 : ¬ (97 ≤ c) := by omega
    have l122 : ((c : Int) ≤ 122) := by omega
    have nl122 : (c ≤ 122) := by omega
    have g65 : (65 ≤ (c : Int)) := by omega
    have ng65 : (65 ≤ c) := by omega
    have l90 : ((c : Int) ≤ 90) := by omega
    have nl90 : (c ≤ 90) := by omega
    rw [show ltrN c = true by { unfold ltrN; simp [*] }]
    clear h1 h2 hc
    go_enter Tryz.func109, Tryz.ntmps109
    go_wp2_with fail
    go_ret
    exact ⟨rfl, rfl⟩
  by_cases h : 91 ≤ c ∧ c ≤ 94
  · obtain ⟨h1, h2⟩ := h
    have g97 : ¬ (97 ≤ (c : Int)) := by omega
    have ng97 : ¬ (97 ≤ c) := by omega
    have l122 : ((c : Int) ≤ 122) := by omega
    have nl122 : (c ≤ 122) := by omega
    have g65 : (65 ≤ (c : Int)) := by omega
    have ng65 : (65 ≤ c) := by omega
    have l90 : ¬ ((c : Int) ≤ 90) := by omega
    have nl90 : ¬ (c ≤ 90) := by omega
    rw [show ltrN c = false by { unfold ltrN; simp [*] }]
    clear h1 h2 hc
    go_enter Tryz.func109, Tryz.ntmps109
    go_wp2_with fail
    go_ret
    exact ⟨rfl, rfl⟩
  by_cases h : c = 95
  · subst h
    go_enter Tryz.func109, Tryz.ntmps109
    go_wp2_with fail
    go_ret
    exact ⟨rfl, rfl⟩
  by_cases h : c = 96
  · subst h
    go_enter Tryz.func109, Tryz.ntmps109
    go_wp2_with fail
    go_ret
    exact ⟨rfl, rfl⟩
  by_cases h : 97 ≤ c ∧ c ≤ 122
  · obtain ⟨h1, h2⟩ := h
    have g97 : (97 ≤ (c : Int)) := by omega
    have ng97 : (97 ≤ c) := by omega
    have l122 : ((c : Int) ≤ 122) := by omega
    have nl122 : (c ≤ 122) := by omega
    have g65 : (65 ≤ (c : Int)) := by omega
    have ng65 : (65 ≤ c) := by omega
    have l90 : ¬ ((c : Int) ≤ 90) := by omega
    have nl90 : ¬ (c ≤ 90) := by omega
    rw [show ltrN c = true by { unfold ltrN; simp [*] }]
    clear h1 h2 hc
    go_enter Tryz.func109, Tryz.ntmps109
    go_wp2_with fail
    go_ret
    exact ⟨rfl, rfl⟩
  by_cases h : 123 ≤ c ∧ c ≤ 255
  · obtain ⟨h1, h2⟩ := h
    have g97 : (97 ≤ (c : Int)) := by omega
    have ng97 : (97 ≤ c) := by omega
    have l122 : ¬ ((c : Int) ≤ 122) := by omega
    have nl122 : ¬ (c ≤ 122) := by omega
    have g65 : (65 ≤ (c : Int)) := by omega
    have ng65 : (65 ≤ c) := by omega
    have l90 : ¬ ((c : Int) ≤ 90) := by omega
    have nl90 : ¬ (c ≤ 90) := by omega
    rw [show ltrN c = false by { unfold ltrN; simp [*] }]
    clear h1 h2 hc
    go_enter Tryz.func109, Tryz.ntmps109
    go_wp2_with fail
    go_ret
    exact ⟨rfl, rfl⟩
  omega

set_option maxHeartbeats 1000000 in
theorem digit_x (c : Nat) (w : World) (hc : c ≤ 255) : Calls Tryz.prog 127 #[.int .u8 c] w fun e w' => e = .returned (.bool (digN c)) ∧ w = w' := by
  by_cases h : 0 ≤ c ∧ c ≤ 8
  · obtain ⟨h1, h2⟩ := h
    have g48 : ¬ (48 ≤ (c : Int)) := by omega
    have ng48 : ¬ (48 ≤ c) := by omega
    have l57 : ((c : Int) ≤ 57) := by omega
    have nl57 : (c ≤ 57) := by omega
    rw [show digN c = false by { unfold digN; simp [*] }]
    clear h1 h2 hc
    go_enter Tryz.func127, Tryz.ntmps127
    go_wp2_with fail
    go_ret
    exact ⟨rfl, rfl⟩
  by_cases h : c = 9
  · subst h
    go_enter Tryz.func127, Tryz.ntmps127
    go_wp2_with fail
    go_ret
    exact ⟨rfl, rfl⟩
  by_cases h : c = 10
  · subst h
    go_enter Tryz.func127, Tryz.ntmps127
    go_wp2_with fail
    go_ret
    exact ⟨rfl, rfl⟩
  by_cases h : 11 ≤ c ∧ c ≤ 12
  · obtain ⟨h1, h2⟩ := h
    have g48 : ¬ (48 ≤ (c : Int)) := by omega
    have ng48 : ¬ (48 ≤ c) := by omega
    have l57 : ((c : Int) ≤ 57) := by omega
    have nl57 : (c ≤ 57) := by omega
    rw [show digN c = false by { unfold digN; simp [*] }]
    clear h1 h2 hc
    go_enter Tryz.func127, Tryz.ntmps127
    go_wp2_with fail
    go_ret
    exact ⟨rfl, rfl⟩
  by_cases h : c = 13
  · subst h
    go_enter Tryz.func127, Tryz.ntmps127
    go_wp2_with fail
    go_ret
    exact ⟨rfl, rfl⟩
  by_cases h : 14 ≤ c ∧ c ≤ 31
  · obtain ⟨h1, h2⟩ := h
    have g48 : ¬ (48 ≤ (c : Int)) := by omega
    have ng48 : ¬ (48 ≤ c) := by omega
    have l57 : ((c : Int) ≤ 57) := by omega
    have nl57 : (c ≤ 57) := by omega
    rw [show digN c = false by { unfold digN; simp [*] }]
    clear h1 h2 hc
    go_enter Tryz.func127, Tryz.ntmps127
    go_wp2_with fail
    go_ret
    exact ⟨rfl, rfl⟩
  by_cases h : c = 32
  · subst h
    go_enter Tryz.func127, Tryz.ntmps127
    go_wp2_with fail
    go_ret
    exact ⟨rfl, rfl⟩
  by_cases h : 33 ≤ c ∧ c ≤ 47
  · obtain ⟨h1, h2⟩ := h
    have g48 : ¬ (48 ≤ (c : Int)) := by omega
    have ng48 : ¬ (48 ≤ c) := by omega
    have l57 : ((c : Int) ≤ 57) := by omega
    have nl57 : (c ≤ 57) := by omega
    rw [show digN c = false by { unfold digN; simp [*] }]
    clear h1 h2 hc
    go_enter Tryz.func127, Tryz.ntmps127
    go_wp2_with fail
    go_ret
    exact ⟨rfl, rfl⟩
  by_cases h : 48 ≤ c ∧ c ≤ 57
  · obtain ⟨h1, h2⟩ := h
    have g48 : (48 ≤ (c : Int)) := by omega
    have ng48 : (48 ≤ c) := by omega
    have l57 : ((c : Int) ≤ 57) := by omega
    have nl57 : (c ≤ 57) := by omega
    rw [show digN c = true by { unfold digN; simp [*] }]
    clear h1 h2 hc
    go_enter Tryz.func127, Tryz.ntmps127
    go_wp2_with fail
    go_ret
    exact ⟨rfl, rfl⟩
  by_cases h : 58 ≤ c ∧ c ≤ 64
  · obtain ⟨h1, h2⟩ := h
    have g48 : (48 ≤ (c : Int)) := by omega
    have ng48 : (48 ≤ c) := by omega
    have l57 : ¬ ((c : Int) ≤ 57) := by omega
    have nl57 : ¬ (c ≤ 57) := by omega
    rw [show digN c = false by { unfold digN; simp [*] }]
    clear h1 h2 hc
    go_enter Tryz.func127, Tryz.ntmps127
    go_wp2_with fail
    go_ret
    exact ⟨rfl, rfl⟩
  by_cases h : 65 ≤ c ∧ c ≤ 90
  · obtain ⟨h1, h2⟩ := h
    have g48 : (48 ≤ (c : Int)) := by omega
    have ng48 : (48 ≤ c) := by omega
    have l57 : ¬ ((c : Int) ≤ 57) := by omega
    have nl57 : ¬ (c ≤ 57) := by omega
    rw [show digN c = false by { unfold digN; simp [*] }]
    clear h1 h2 hc
    go_enter Tryz.func127, Tryz.ntmps127
    go_wp2_with fail
    go_ret
    exact ⟨rfl, rfl⟩
  by_cases h : 91 ≤ c ∧ c ≤ 94
  · obtain ⟨h1, h2⟩ := h
    have g48 : (48 ≤ (c : Int)) := by omega
    have ng48 : (48 ≤ c) := by omega
    have l57 : ¬ ((c : Int) ≤ 57) := by omega
    have nl57 : ¬ (c ≤ 57) := by omega
    rw [show digN c = false by { unfold digN; simp [*] }]
    clear h1 h2 hc
    go_enter Tryz.func127, Tryz.ntmps127
    go_wp2_with fail
    go_ret
    exact ⟨rfl, rfl⟩
  by_cases h : c = 95
  · subst h
    go_enter Tryz.func127, Tryz.ntmps127
    go_wp2_with fail
    go_ret
    exact ⟨rfl, rfl⟩
  by_cases h : c = 96
  · subst h
    go_enter Tryz.func127, Tryz.ntmps127
    go_wp2_with fail
    go_ret
    exact ⟨rfl, rfl⟩
  by_cases h : 97 ≤ c ∧ c ≤ 122
  · obtain ⟨h1, h2⟩ := h
    have g48 : (48 ≤ (c : Int)) := by omega
    have ng48 : (48 ≤ c) := by omega
    have l57 : ¬ ((c : Int) ≤ 57) := by omega
    have nl57 : ¬ (c ≤ 57) := by omega
    rw [show digN c = false by { unfold digN; simp [*] }]
    clear h1 h2 hc
    go_enter Tryz.func127, Tryz.ntmps127
    go_wp2_with fail
    go_ret
    exact ⟨rfl, rfl⟩
  by_cases h : 123 ≤ c ∧ c ≤ 255
  · obtain ⟨h1, h2⟩ := h
    have g48 : (48 ≤ (c : Int)) := by omega
    have ng48 : (48 ≤ c) := by omega
    have l57 : ¬ ((c : Int) ≤ 57) := by omega
    have nl57 : ¬ (c ≤ 57) := by omega
    rw [show digN c = false by { unfold digN; simp [*] }]
    clear h1 h2 hc
    go_enter Tryz.func127, Tryz.ntmps127
    go_wp2_with fail
    go_ret
    exact ⟨rfl, rfl⟩
  omega

set_option maxHeartbeats 1000000 in
theorem word_x (c : Nat) (w : World) (hc : c ≤ 255) : Calls Tryz.prog 102 #[.int .u8 c] w fun e w' => e = .returned (.bool (wrdN c)) ∧ w = w' := by
  have C1 := Lib.hid (letter_x c w hc)
  have C2 := Lib.hid (digit_x c w hc)
  unfold wrdN
  cases h1 : ltrN c with
  | true =>
    rw [h1] at C1
    clear h1 C2
    go_enter Tryz.func102, Tryz.ntmps102
    go_wp2_with fail
    refine C1.out.mono ?_
    rintro e w' ⟨rfl, rfl⟩
    go_wp2_with fail
    go_ret
    exact ⟨rfl, rfl⟩
  | false =>
    rw [h1] at C1
    clear h1
    cases h2 : digN c with
    | true =>
      rw [h2] at C2
      clear h2
      go_enter Tryz.func102, Tryz.ntmps102
      go_wp2_with fail
      refine C1.out.mono ?_
      rintro e w' ⟨rfl, rfl⟩
      go_wp2_with fail
      refine C2.out.mono ?_
      rintro e w' ⟨rfl, rfl⟩
      go_wp2_with fail
      go_ret
      exact ⟨rfl, rfl⟩
    | false =>
      rw [h2] at C2
      clear h2
      have e95 : ((c : Int) == 95) = decide (c = 95) := by
        by_cases h : c = 95
        · rw [decide_eq_true h, h]; rfl
        · rw [decide_eq_false h]; exact beq_eq_false_iff_ne.2 (by omega)
      have HB : Hid (((c : Int) == 95) = decide (c = 95)) := e95
      clear e95
      go_enter Tryz.func102, Tryz.ntmps102
      go_wp2_with fail
      refine C1.out.mono ?_
      rintro e w' ⟨rfl, rfl⟩
      go_wp2_with fail
      refine C2.out.mono ?_
      rintro e w' ⟨rfl, rfl⟩
      go_wp2_with fail
      go_ret
      first | exact ⟨rfl, rfl⟩ | exact ⟨by rw [HB.out]; rfl, rfl⟩ | (refine ⟨?_, rfl⟩; simp [← HB.out])

def rkS (t : Nat) : ByteArray := ⟨(rkL.getD t []).toArray⟩
def rkO : Obj := .cells (rkL.map fun l => Value.string ⟨l.toArray⟩).toArray 9
theorem rk_len : rkL.length = 31 := by decide +kernel
theorem rk_cells (w : World) (j : Nat) (hj : j < 31) : (w.alloc rkO).cell? ⟨w.heap.size, 0 + j, none⟩ = some (.string (rkS j)) := by
  refine cellRow (t := 9) (cs := (rkL.map fun l => Value.string ⟨l.toArray⟩).toArray) (alloc0 w rkO) _ _ ?_
  have : j < rkL.length := by rw [rk_len]; exact hj
  simp [rkS, this]
theorem rkeywords_x (w : World) : Calls Tryz.prog 134 #[] w fun e w' => e = .returned (.slice (some ⟨w.heap.size, 0, none⟩) 31 31) ∧ w' = w.alloc rkO := by
  go_enter Tryz.func134, Tryz.ntmps134
  go_wp2_with fail
  go_ret
  exact ⟨rfl, rfl⟩
def hasB (n : Nat) (S : Nat → ByteArray) (x : ByteArray) : Bool := decide (∃ j, j < n ∧ S j = x)
set_option maxHeartbeats 1000000 in
theorem has_x (g off n cap : Nat) (S : Nat → ByteArray) (x : ByteArray) (w : World) (hn : n ≤ 1000000) (hcap : n ≤ cap) (hc : ∀ j, j < n → w.cell? ⟨g, off + j, none⟩ = some (.string (S j))) :
    Calls Tryz.prog 133 #[.slice (some ⟨g, off, none⟩) n cap, .string x] w fun e w' => e = .returned (.bool (hasB n S x)) ∧ w = w' := by
  obtain ⟨R, hR⟩ : ∃ R, decide (∃ j, j < n ∧ S j = x) = R := ⟨_, rfl⟩
  unfold hasB
  rw [hR]
  have HR := Lib.hid hR
  have HC := Lib.hid hc
  clear hR hc
  go_enter Tryz.func133, Tryz.ntmps133
  go_wp2_with fail
  go_loopg [5] n (fun gk i wr => ∃ j : Nat, i = .int .i64 j ∧ gk = n - j ∧ j ≤ n ∧ Hid (∀ i, i < j → S i ≠ x) ∧ wr = w)
  case atStart => exact ⟨0, rfl, rfl, Nat.zero_le _, fun i h => absurd h (Nat.not_lt_zero _), rfl⟩
  case round =>
    obtain ⟨j, rfl, rfl, hj, Hj, rfl⟩ := hrel
    by_cases hlt : j < n
    · have c0 := HC.out j hlt
      have i0' : (0 : Int) ≤ (j : Int) := by omega
      have i1' : (j : Int) < (n : Int) := by omega
      by_cases he : S j = x
      · have t1 := (Lib.bytes_beq_iff _ _).2 he
        obtain rfl : R = true := by rw [← HR.out]; exact decide_eq_true ⟨j, hlt, he⟩
        clear he HR
        generalize S j = X at *
        go_wp2_with fail
        go_ret
        exact ⟨rfl, rfl⟩
      · have t1 := (Lib.bytes_beq_false_iff _ _).2 he
        have HJ2 : Hid (∀ i, i < j + 1 → S i ≠ x) := fun i hi => by
          by_cases e : i = j
          · subst e; exact he
          · exact Hj.out i (by omega)
        clear he
        go_wp2_with fail
        go_roundg (n - (j + 1))
        case measure => omega
        case rel => exact ⟨j + 1, by go_num, rfl, by omega, HJ2, rfl⟩
    · obtain rfl : R = false := by
        rw [← HR.out]; exact decide_eq_false (fun ⟨i, h1, h2⟩ => Hj.out i (by omega) h2)
      clear HR
      go_wp2_with fail
      go_ret
      exact ⟨rfl, rfl⟩
theorem rk_is (x : ByteArray) : hasB 31 rkS x = kwB x := by
  unfold kwB hasB
  rw [decide_eq_decide, ← rk_mem]
  constructor
  · rintro ⟨j, hj, rfl⟩
    have : j < rkL.length := by rw [rk_len]; exact hj
    simp [rkS, this]
  · intro h
    obtain ⟨m, hm, he⟩ := List.getElem_of_mem h
    refine ⟨m, by rw [← rk_len]; exact hm, ba_list ?_⟩
    rw [← he]
    simp [rkS, hm]
theorem rIsKeyword_x (x : ByteArray) (w : World) : Calls Tryz.prog 110 #[.string x] w fun e w' => e = .returned (.bool (kwB x)) ∧ Ext w w' := by
  have HK := Lib.hid (rkeywords_x w)
  have HB := Lib.hid (has_x w.heap.size 0 31 31 rkS x (w.alloc rkO) (by decide) (Nat.le_refl _) (fun j hj => rk_cells w j hj))
  rw [rk_is] at HB
  have HE : Hid (Ext w (w.alloc rkO)) := (Upd.refl _ w).alloc _
  go_enter Tryz.func110, Tryz.ntmps110
  go_wp2_with fail
  refine HK.out.mono ?_
  rintro e w' ⟨rfl, rfl⟩
  go_wp2_with fail
  refine HB.out.mono ?_
  rintro e w' ⟨rfl, rfl⟩
  go_wp2_with fail
  go_ret
  exact ⟨rfl, HE.out⟩
theorem at_list (s : ByteArray) (k : Nat) (h : k < s.size) : s.data.toList.getD k 0 = s[k]'h := by
  have hl : k < s.data.toList.length := h
  rw [List.getD_eq_getElem?_getD, List.getElem?_eq_getElem hl]; rfl
theorem all_take (s : ByteArray) (k : Nat) (h : k < s.size) (p : UInt8 → Bool) : (s.data.toList.take (k + 1)).all p = ((s.data.toList.take k).all p && p (s[k]'h)) := by
  rw [List.take_succ_eq_append_getElem (by exact h), List.all_append]
  simp; rfl
theorem all_stop (s : ByteArray) (k : Nat) (h : k < s.size) (p : UInt8 → Bool) (hp : p (s[k]'h) = false) : s.data.toList.all p = false := by
  rw [List.all_eq_false]
  have hl : k < s.data.toList.length := h
  have hm : s.data.toList[k]'hl ∈ s.data.toList := List.getElem_mem hl
  exact ⟨s[k]'h, hm, by rw [hp]; decide⟩
theorem cls_wrd (c : Nat) : wrdN c = decide (2 ≤ clsN c) := by
  unfold wrdN clsN
  by_cases h1 : c = 32 ∨ c = 9 ∨ c = 13 ∨ c = 10
  · rw [if_pos h1]
    rcases h1 with rfl | rfl | rfl | rfl <;> rfl
  · rw [if_neg h1]
    cases ltrN c with
    | true => rfl
    | false =>
      cases digN c with
      | true => rfl
      | false => by_cases h : c = 95 <;> simp [h]
theorem cls_ltr (c : Nat) : ltrN c = decide (clsN c = 2) := by
  unfold clsN
  by_cases h1 : c = 32 ∨ c = 9 ∨ c = 13 ∨ c = 10
  · rw [if_pos h1]
    rcases h1 with rfl | rfl | rfl | rfl <;> rfl
  · rw [if_neg h1]
    cases ltrN c with
    | true => rfl
    | false =>
      cases digN c with
      | true => rfl
      | false => by_cases h : c = 95 <;> simp [h]

end Go.Proofs.YtjjaknmnhhfjeaaGreatDoor

/- IsName. -/
namespace Go.Proofs.YtjjaknmnhhfjeaaGreatDoor
open Go.RowKit Go.Hw
set_option linter.unusedVariables false
set_option linter.unusedSimpArgs false

theorem nm_parts (s : ByteArray) (h0 : 0 < s.size) : nmB s = (decide (s.size ≤ 40) && (ltrN ((s[0]'h0).toNat) && (s.data.toList.all (fun b => wrdN b.toNat) && !kwB s))) := by
  unfold nmB
  rw [at_list s 0 h0]
  simp [h0]
theorem nm_empty (s : ByteArray) (h0 : s.size = 0) : nmB s = false := by unfold nmB; simp [h0]
theorem empty_is (s : ByteArray) (h0 : s.size = 0) : s = ⟨#[]⟩ := ba_list (List.eq_nil_of_length_eq_zero h0)
theorem nonempty_t (s : ByteArray) (h0 : 0 < s.size) : s.toList.isEmpty = false ∧ ¬ (s.toList = []) ∧ (s.toList == []) = false ∧ (s.toList == (⟨#[]⟩ : ByteArray).toList) = false := by
  have e : s.toList ≠ [] := fun e => by rw [Lib.toList_data] at e; have : s.data.toList.length = s.size := rfl; rw [e] at this; simp at this; omega
  have e2 : (⟨#[]⟩ : ByteArray).toList = [] := by rw [Lib.toList_data]
  refine ⟨by simpa using e, e, by simpa using e, by rw [e2]; simpa using e⟩
set_option maxHeartbeats 4000000 in
theorem isName_x (s : ByteArray) (w : World) (htab : AscT w) : Calls Tryz.prog 87 #[.string s] w fun e w' => e = .returned (.bool (nmB s)) ∧ Ext w w' := by
  by_cases h0 : 0 < s.size
  · rw [nm_parts s h0]
    obtain ⟨z1, z2, z3, z4⟩ := nonempty_t s h0
    by_cases h40 : s.size ≤ 40
    · rw [decide_eq_true h40, Bool.true_and]
      have t1 : decide ((40 : Int) < (s.size : Int)) = false := decide_eq_false (by omega)
      have t1' : decide (40 < s.size) = false := decide_eq_false (by omega)
      obtain ⟨c, hc⟩ : ∃ c : Nat, (s[0]'h0).toNat = c := ⟨_, rfl⟩
      have hc255 : c ≤ 255 := by rw [← hc]; have := (s[0]'h0).toNat_lt; omega
      rw [hc]
      have CL := Lib.hid (class_x c w hc255)
      have KW := Lib.hid (isKeyword_x s w htab)
      cases hl : ltrN c with
      | false =>
        have hl2 : ((clsN c : Nat) : Int) ≠ 2 := by
          rw [cls_ltr] at hl
          have := of_decide_eq_false hl
          omega
        have t2 : (((clsN c : Nat) : Int) != 2) = true := bne_iff_ne.2 hl2
        have t2' : (((clsN c : Nat) : Int) == 2) = false := beq_eq_false_iff_ne.2 hl2
        clear hl hl2 KW
        generalize ((clsN c : Nat) : Int) = Y at *
        go_enter Tryz.func87, Tryz.ntmps87
        go_wp2_with fail
        refine CL.out.mono ?_
        rintro e w' ⟨rfl, rfl⟩
        go_wp2_with fail
        go_ret
        exact ⟨rfl, Upd.refl _ _⟩
      | true =>
        have hl2 : clsN c = 2 := by
          rw [cls_ltr] at hl
          exact of_decide_eq_true hl
        rw [hl2] at CL
        clear hl hl2
        cases hk : kwB s with
        | true =>
          rw [hk] at KW
          clear hk
          go_enter Tryz.func87, Tryz.ntmps87
          go_wp2_with fail
          refine CL.out.mono ?_
          rintro e w' ⟨rfl, rfl⟩
          go_wp2_with fail
          refine KW.out.mono ?_
          rintro e w' ⟨rfl, hE⟩
          have HE := Lib.hid hE
          clear hE
          go_wp2_with fail
          go_ret
          exact ⟨by simp, HE.out⟩
        | false =>
          rw [hk] at KW
          rw [Bool.not_false, Bool.and_true, Bool.true_and]
          obtain ⟨R, hR⟩ : ∃ R, s.data.toList.all (fun b => wrdN b.toNat) = R := ⟨_, rfl⟩
          rw [hR]
          have HR := Lib.hid hR
          clear hk hR
          go_enter Tryz.func87, Tryz.ntmps87
          go_wp2_with fail
          refine CL.out.mono ?_
          rintro e w' ⟨rfl, rfl⟩
          go_wp2_with fail
          refine KW.out.mono ?_
          rintro e w' ⟨rfl, hE⟩
          have HE := Lib.hid hE
          clear hE hc CL KW t1 t1' z1 z2 z3 z4
          go_wp2_with fail
          go_loopg [3, 23] s.size (fun gk _ i wr => ∃ j : Nat, i = .int .i64 j ∧ gk = s.size - j ∧ j ≤ s.size ∧ Hid ((s.data.toList.take j).all (fun b => wrdN b.toNat) = true) ∧ wr = w')
          case atStart => exact ⟨0, rfl, rfl, Nat.zero_le _, rfl, rfl⟩
          case round =>
            obtain ⟨j, rfl, rfl, hj, Hj, rfl⟩ := hrel
            by_cases hlt : j < s.size
            · obtain ⟨d, hd⟩ : ∃ d : Nat, (s[j]'hlt).toNat = d := ⟨_, rfl⟩
              have hd255 : d ≤ 255 := by rw [← hd]; have := (s[j]'hlt).toNat_lt; omega
              have CD := Lib.hid (class_x d wr hd255)
              have hw := cls_wrd d
              have i0' : (0 : Int) ≤ (j : Int) := by omega
              have i1' : (j : Int) < (s.size : Int) := by omega
              cases hx : wrdN d with
              | true =>
                rw [hx] at hw
                have hw2 := of_decide_eq_true hw.symm
                have HJ2 : Hid ((s.data.toList.take (j + 1)).all (fun b => wrdN b.toNat) = true) := by
                  show _ = _
                  rw [all_take s j hlt, hd, Hj.out, hx]; rfl
                have t3 : decide (((clsN d : Nat) : Int) < 2) = false := decide_eq_false (by omega)
                have t3' : decide (clsN d < 2) = false := decide_eq_false (by omega)
                clear hx hw hw2 Hj
                generalize clsN d = Y at *
                go_wp2_with fail
                refine CD.out.mono ?_
                rintro e w' ⟨rfl, rfl⟩
                go_wp2_with fail
                go_roundg (s.size - (j + 1))
                case measure => omega
                case rel => exact ⟨j + 1, by go_num, rfl, by omega, HJ2, rfl⟩
              | false =>
                rw [hx] at hw
                have hw2 := of_decide_eq_false hw.symm
                obtain rfl : R = false := HR.out.symm.trans (all_stop s j hlt _ (by rw [hd]; exact hx))
                have t3 : decide (((clsN d : Nat) : Int) < 2) = true := decide_eq_true (by omega)
                have t3' : decide (clsN d < 2) = true := decide_eq_true (by omega)
                clear hx hw hw2 Hj HR
                generalize clsN d = Y at *
                go_wp2_with fail
                refine CD.out.mono ?_
                rintro e w' ⟨rfl, rfl⟩
                go_wp2_with fail
                go_ret
                exact ⟨rfl, HE.out⟩
            · obtain rfl : R = true := by
                rw [← HR.out, ← Hj.out, List.take_of_length_le (by show s.size ≤ j; omega)]
              clear HR Hj
              go_wp2_with fail
              go_ret
              exact ⟨rfl, HE.out⟩
    · rw [decide_eq_false h40, Bool.false_and]
      have t1 : decide ((40 : Int) < (s.size : Int)) = true := decide_eq_true (by omega)
      have t1' : decide (40 < s.size) = true := decide_eq_true (by omega)
      go_enter Tryz.func87, Tryz.ntmps87
      go_wp2_with fail
      go_ret
      exact ⟨rfl, Upd.refl _ _⟩
  · rw [nm_empty s (by omega)]
    obtain rfl := empty_is s (by omega)
    go_enter Tryz.func87, Tryz.ntmps87
    go_wp2_with fail
    go_ret
    exact ⟨rfl, Upd.refl _ _⟩
set_option maxHeartbeats 4000000 in
theorem rIsName_x (s : ByteArray) (w : World) : Calls Tryz.prog 73 #[.string s] w fun e w' => e = .returned (.bool (nmB s)) ∧ Ext w w' := by
  by_cases h0 : 0 < s.size
  · rw [nm_parts s h0]
    have g1 : ((s.size : Int) == 0) = false := beq_eq_false_iff_ne.2 (by omega)
    have g2 : ¬ (s.size = 0) := by omega
    have g3 : (s.size == 0) = false := beq_eq_false_iff_ne.2 g2
    by_cases h40 : s.size ≤ 40
    · rw [decide_eq_true h40, Bool.true_and]
      have t1 : decide ((40 : Int) < (s.size : Int)) = false := decide_eq_false (by omega)
      have t1' : decide (40 < s.size) = false := decide_eq_false (by omega)
      obtain ⟨c, hc⟩ : ∃ c : Nat, (s[0]'h0).toNat = c := ⟨_, rfl⟩
      have hc255 : c ≤ 255 := by rw [← hc]; have := (s[0]'h0).toNat_lt; omega
      rw [hc]
      have CL := Lib.hid (letter_x c w hc255)
      cases hl : ltrN c with
      | false =>
        rw [hl] at CL
        clear hl
        go_enter Tryz.func73, Tryz.ntmps73
        go_wp2_with fail
        refine CL.out.mono ?_
        rintro e w' ⟨rfl, rfl⟩
        go_wp2_with fail
        go_ret
        exact ⟨rfl, Upd.refl _ _⟩
      | true =>
        rw [hl] at CL
        rw [Bool.true_and]
        have KW := Lib.hid (rIsKeyword_x s w)
        obtain ⟨R, hR⟩ : ∃ R, s.data.toList.all (fun b => wrdN b.toNat) = R := ⟨_, rfl⟩
        rw [hR]
        have HR := Lib.hid hR
        clear hl hR
        go_enter Tryz.func73, Tryz.ntmps73
        go_wp2_with fail
        refine CL.out.mono ?_
        rintro e w' ⟨rfl, rfl⟩
        clear hc CL
        go_wp2_with fail
        go_loopg [3] s.size (fun gk i wr => ∃ j : Nat, i = .int .i64 j ∧ gk = s.size - j ∧ j ≤ s.size ∧ Hid ((s.data.toList.take j).all (fun b => wrdN b.toNat) = true) ∧ wr = w)
        case atStart => exact ⟨0, rfl, rfl, Nat.zero_le _, rfl, rfl⟩
        case round =>
          obtain ⟨j, rfl, rfl, hj, Hj, rfl⟩ := hrel
          by_cases hlt : j < s.size
          · obtain ⟨d, hd⟩ : ∃ d : Nat, (s[j]'hlt).toNat = d := ⟨_, rfl⟩
            have hd255 : d ≤ 255 := by rw [← hd]; have := (s[j]'hlt).toNat_lt; omega
            have CD := Lib.hid (word_x d wr hd255)
            have i0' : (0 : Int) ≤ (j : Int) := by omega
            have i1' : (j : Int) < (s.size : Int) := by omega
            cases hx : wrdN d with
            | true =>
              rw [hx] at CD
              have HJ2 : Hid ((s.data.toList.take (j + 1)).all (fun b => wrdN b.toNat) = true) := by
                show _ = _
                rw [all_take s j hlt, hd, Hj.out, hx]; rfl
              clear hx Hj
              go_wp2_with fail
              refine CD.out.mono ?_
              rintro e w' ⟨rfl, rfl⟩
              go_wp2_with fail
              go_roundg (s.size - (j + 1))
              case measure => omega
              case rel => exact ⟨j + 1, by go_num, rfl, by omega, HJ2, rfl⟩
            | false =>
              rw [hx] at CD
              obtain rfl : R = false := HR.out.symm.trans (all_stop s j hlt _ (by rw [hd]; exact hx))
              clear hx Hj HR
              go_wp2_with fail
              refine CD.out.mono ?_
              rintro e w' ⟨rfl, rfl⟩
              go_wp2_with fail
              go_ret
              exact ⟨rfl, Upd.refl _ _⟩
          · obtain rfl : R = true := by
              rw [← HR.out, ← Hj.out, List.take_of_length_le (by show s.size ≤ j; omega)]
            clear HR Hj
            cases hk : kwB s with
            | true =>
              rw [hk] at KW
              have HKW := Lib.hid hk
              clear hk
              go_wp2_with fail
              refine KW.out.mono ?_
              rintro e w' ⟨rfl, hE⟩
              have HE := Lib.hid hE
              clear hE
              go_wp2_with fail
              go_ret
              exact ⟨by simp [HKW.out], HE.out⟩
            | false =>
              rw [hk] at KW
              have HKW := Lib.hid hk
              clear hk
              go_wp2_with fail
              refine KW.out.mono ?_
              rintro e w' ⟨rfl, hE⟩
              have HE := Lib.hid hE
              clear hE
              go_wp2_with fail
              go_ret
              exact ⟨by simp [HKW.out], HE.out⟩
    · rw [decide_eq_false h40, Bool.false_and]
      have t1 : decide ((40 : Int) < (s.size : Int)) = true := decide_eq_true (by omega)
      have t1' : decide (40 < s.size) = true := decide_eq_true (by omega)
      go_enter Tryz.func73, Tryz.ntmps73
      go_wp2_with fail
      go_ret
      exact ⟨rfl, Upd.refl _ _⟩
  · rw [nm_empty s (by omega)]
    obtain rfl := empty_is s (by omega)
    go_enter Tryz.func73, Tryz.ntmps73
    go_wp2_with fail
    go_ret
    exact ⟨rfl, Upd.refl _ _⟩

end Go.Proofs.YtjjaknmnhhfjeaaGreatDoor
