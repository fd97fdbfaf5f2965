/- The texts I46, one behind the other. -/
import Derived.Test.YtiimccogojkldaaGreatDoorZH
import Derived.Test.YtiimccogojkldaaGreatDoorZA
/- The examples. -/
namespace Go.Proofs.YtiimccogojkldaaGreatDoor
open Go.RowKit Go.Hw Go
set_option linter.unusedVariables false
set_option linter.unusedSimpArgs false

open Tm
abbrev eN : Tm := .mk ⟨#[78]⟩ ⟨#[110, 97, 116]⟩ []
abbrev eM : Tm := .mk ⟨#[77]⟩ ⟨#[110, 97, 116]⟩ []
abbrev eS : Tm := .mk ⟨#[115]⟩ nul [eN]
abbrev eP : Tm := .mk ⟨#[112, 108, 117, 115]⟩ nul [eN, eM]
abbrev eL : Tm := .mk ⟨#[112, 108, 117, 115]⟩ nul [eS, eM]
abbrev eR : Tm := .mk ⟨#[115]⟩ nul [eP]
theorem pk_last {G : List PF.Fct} {x : PF.Fct} {W : World} (h : ∀ g ∈ G ++ [x], g.2.2 W) : x.2.2 W := h x (List.mem_append_right _ (List.mem_singleton.2 rfl))
theorem pk_init {G : List PF.Fct} {x : PF.Fct} {W : World} (h : ∀ g ∈ G ++ [x], g.2.2 W) : ∀ g ∈ G, g.2.2 W := fun g hg => h g (List.mem_append_left _ hg)
theorem apt_two {G : List PF.Fct} {x y : PF.Fct} (h : PF.Apt ((G ++ [x]) ++ [y])) : ∀ k, x.2.1 = some k → y.2.1 ≠ some k := (List.pairwise_append.1 h).2.2 x (List.mem_append_right _ (List.mem_singleton.2 rfl)) y (List.mem_singleton.2 rfl)
theorem set3_heap {W : World} {z : Nat} {t : TypeId} {v0 v1 v2 : Value} (h : W.heap[z]? = some (.cells #[v0, v1, v2] t (0, 0))) (u0 u1 u2 : Value) : (((W.setCell ⟨z, 0, none⟩ u0).setCell ⟨z, 1, none⟩ u1).setCell ⟨z, 2, none⟩ u2).heap[z]? = some (.cells #[u0, u1, u2] t (0, 0)) := by
  have := setBlock (setBlock (setBlock h 0 u0) 1 u1) 2 u2
  simpa using this
theorem set3_upd (W : World) (z : Nat) (u0 u1 u2 : Value) : Upd (fun k => k = z) W (((W.setCell ⟨z, 0, none⟩ u0).setCell ⟨z, 1, none⟩ u1).setCell ⟨z, 2, none⟩ u2) :=
  (((Upd.refl (fun k => k = z) W).setCell (p := ⟨z, 0, none⟩) (.inl rfl) u0).setCell (p := ⟨z, 1, none⟩) (.inl rfl) u1).setCell (p := ⟨z, 2, none⟩) (.inl rfl) u2
abbrev tIM : By := ⟨#[116, 105, 109, 101, 115]⟩
abbrev zER : By := ⟨#[122, 101, 114, 111]⟩
abbrev pLU : By := ⟨#[112, 108, 117, 115]⟩
abbrev sSS : By := ⟨#[115]⟩
theorem gr1 : grF [tIM, pLU, sSS, zER] eL eR = (true, 0) := by decide +kernel
theorem gr2 : grF [sSS, pLU] eL eR = (false, 0) := by decide +kernel
theorem fi1 : findF [(eL, eR)] = ([pLU, sSS], 0) := by decide +kernel
theorem eqs_x (l m : List By) (v u : Value) (S T : Nat → Prop) (w : World) (hv : StR S w v l) (hu : StR T w u m) (hl : l.length ≤ 1000000) (hm : m.length ≤ 1000000) :
    Calls Tryz.prog 21 #[v, u] w fun e w' => e = .returned (.bool (decide (l = m))) ∧ Ext w w' := by
  obtain ⟨va, vc, rfl⟩ := SlR.shape hv
  obtain ⟨ua, uc, rfl⟩ := SlR.shape hu
  by_cases hne : l.length = m.length
  · by_cases h0 : 0 < l.length
    · obtain ⟨g, off, hga, _, hat⟩ := SlR.one_at (d := nul) hv h0
      obtain ⟨g2, off2, hga2, _, hat2⟩ := SlR.one_at (d := nul) hu (by omega)
      subst hga
      subst hga2
      refine (Tryz.slices_Equal_string g off l.length vc g2 off2 m.length uc l m w (Nat.le_refl _) (Nat.le_refl _) (by omega) (by omega) (fun j hj => hat j hj) (fun j hj => hat2 j hj)).mono ?_
      rintro e w' ⟨rfl, q, rfl⟩
      rw [List.take_length, List.take_length]
      exact ⟨rfl, (Upd.refl _ w).drewN' q⟩
    · have hl0 : l = [] := List.eq_nil_of_length_eq_zero (by omega)
      have hm0 : m = [] := List.eq_nil_of_length_eq_zero (by omega)
      subst hl0
      subst hm0
      refine (Tryz.slices_Equal_string_empty va ua vc 0 uc w (by omega)).mono ?_
      rintro e w' ⟨rfl, rfl⟩
      exact ⟨rfl, Upd.refl _ _⟩
  · refine (Tryz.slices_Equal_string_lens va ua l.length vc m.length uc w hne).mono ?_
    rintro e w' ⟨rfl, rfl⟩
    rw [decide_eq_false (fun e => hne (by rw [e]))]
    exact ⟨rfl, Upd.refl _ _⟩
theorem pair_tl6 {S : Nat → Prop} {W : World} {n : Nat} {a b : Tm} {ua ub : Value} {t : TypeId} (h : W.heap[n]? = some (.cells #[.string a.name, .string a.sort, ua, .string b.name, .string b.sort, ub] t (0, 0))) (hn : S n) (ha : TlR S W a.kids ua) (hb : TlR S W b.kids ub) : TlR S W [a, b] (.slice (some ⟨n, 0, none⟩) 2 2) := by
  refine .mk _ [ua, ub] _ rfl ?_ (fun i hi => ?_)
  · refine SlR.mk' rfl rfl (Nat.le_refl _) (fun _ => hn) (fun j hj => ?_)
    have hj6 : j < 6 := hj
    rw [Nat.zero_add, cell_of_row W n j _ _ _ h]
    have : j = 0 ∨ j = 1 ∨ j = 2 ∨ j = 3 ∨ j = 4 ∨ j = 5 := by omega
    rcases this with rfl | rfl | rfl | rfl | rfl | rfl <;> rfl
  · have : i = 0 ∨ i = 1 := by simp at hi; omega
    rcases this with rfl | rfl
    · exact ha
    · exact hb
theorem lit_str (W : World) (l : List By) (hl : l.length ≤ 1000) : StR (fun k => k < (W.alloc (.cells (l.map Value.string).toArray 9)).heap.size) (W.alloc (.cells (l.map Value.string).toArray 9)) (.slice (some ⟨W.heap.size, 0, none⟩) l.length l.length) l := by
  have h := World.ownsRow_lit (base := W.heap.size) (e := 9) (size := 1) W (l.map Value.string).toArray l.length (Nat.le_refl _) (by unfold maxLen; omega) (by simp)
  exact (SlR.of_own h).weaken (fun k hk => by injection hk with hk; rw [← hk]; simp)
theorem op_x (nm : By) (a : Option Addr) (n c : Nat) (w : World) : Calls Tryz.prog 35 #[.string nm, .slice a n c] w fun e w' => e = .returned (.agg #[.string nm, .string ⟨#[]⟩, .slice a n c]) ∧ Ext w w' := by
  go_enter Tryz.func35, Tryz.ntmps35
  go_wp2_with fail
  have hb := alloc0 w (.cells #[.string nm, .string ⟨#[]⟩, .slice a n c] 25)
  have e0 := cellRow hb 0 (.string nm) rfl
  have e1 := cellRow hb 1 (.string ⟨#[]⟩) rfl
  have e2 := cellRow hb 2 (.slice a n c) rfl
  first
    | exact bodyPost_ret (v := .agg #[.string nm, .string ⟨#[]⟩, .slice a n c]) (by simp [results, Tryz.results35, go_sem, e0, e1, e2]) rfl ⟨rfl, (Upd.refl _ w).alloc _⟩
    | exact bodyPost_ret (v := .agg #[.string nm, .string ⟨#[]⟩, .slice a n c]) (by simp [results, Tryz.results35, go_sem]) rfl ⟨rfl, ((((Upd.refl (fun _ => False) w).alloc _).setNew (Nat.le_refl _) _).setNew (Nat.le_refl _) _).setNew (Nat.le_refl _) _⟩
/-- not a box that has just been made -/
def NZ (W : World) (k : Nat) : Prop := ∃ o, W.heap[k]? = some o ∧ o ≠ (.cells #[.string ⟨#[]⟩, .string ⟨#[]⟩, .slice none 0 0] 25 (0, 0))
/-- a list of terms in new memory -/
def LsR (base : Nat) (L : List Tm) (n x : Nat) (W : World) : Prop := base ≤ x ∧ x < W.heap.size ∧ TlR (fun k => base ≤ k ∧ NZ W k) W L (.slice (some ⟨x, 0, none⟩) n n)
theorem LsR.ext {base n x : Nat} {L : List Tm} {W W' : World} (h : LsR base L n x W) (hE : Ext W W') : LsR base L n x W' :=
  ⟨h.1, Nat.lt_of_lt_of_le h.2.1 hE.size, (h.2.2.ext hE).weaken (fun k hk => ⟨hk.1, by obtain ⟨o, h1, h2⟩ := hk.2; exact ⟨o, hE.heap h1 (fun h => h), h2⟩⟩)⟩
def annS (base : Nat) (L : List Tm) (n : Nat) : PF.Ann Nat := ⟨fun x => .slice (some ⟨x, 0, none⟩) n n, fun x W => LsR base L n x W, fun x W W' h hE => h.ext hE, fun x => some x, fun x W k h e => by injection e with e; rw [← e]; exact h.2.1⟩
def annC (base : Nat) (L : List Tm) (n : Nat) (nm : By) : PF.Ann Nat := ⟨fun x => .agg #[.string nm, .string ⟨#[]⟩, .slice (some ⟨x, 0, none⟩) n n], fun x W => LsR base L n x W, fun x W W' h hE => h.ext hE, fun _ => none, fun x W k h e => by cases e⟩
def annZ (base : Nat) : PF.Ann Nat := ⟨fun x => .pointer (some ⟨x, 0, none⟩), fun x W => base ≤ x ∧ W.heap[x]? = some (.cells #[.string ⟨#[]⟩, .string ⟨#[]⟩, .slice none 0 0] 25 (0, 0)), fun x W W' h hE => ⟨h.1, hE.heap h.2 (fun h => h)⟩, fun x => some x, fun x W k h e => by injection e with e; rw [← e]; exact (Array.getElem?_eq_some_iff.1 h.2).1⟩
theorem LsR.one {base : Nat} {W : World} {t : Tm} {u : Value} (hb : base ≤ W.heap.size) (ht : TlR (fun k => base ≤ k ∧ NZ W k) W t.kids u) (hz : t.name ≠ ⟨#[]⟩) : LsR base [t] 1 W.heap.size (W.alloc (.cells #[.string t.name, .string t.sort, u] 25)) := by
  have hA := (Upd.refl (fun _ => False) W).alloc (.cells #[.string t.name, .string t.sort, u] 25)
  have h0 := alloc0 W (.cells #[.string t.name, .string t.sort, u] 25)
  refine ⟨hb, by simp, .mk _ [u] _ rfl ?_ (fun i hi => ?_)⟩
  · refine SlR.mk' rfl rfl (Nat.le_refl _) (fun _ => ⟨hb, _, h0, fun e => ?_⟩) (fun j hj => ?_)
    · injection e with e
      have := congrArg (fun a : Array Value => a[0]?) e
      simp at this
      exact hz this
    · have hj3 : j < 3 := hj
      rw [Nat.zero_add, cell_of_row _ _ j _ _ _ h0]
      have : j = 0 ∨ j = 1 ∨ j = 2 := by omega
      rcases this with rfl | rfl | rfl <;> rfl
  · obtain rfl : i = 0 := by simpa using hi
    exact (ht.ext hA).weaken (fun k hk => ⟨hk.1, by obtain ⟨o, h1, h2⟩ := hk.2; exact ⟨o, hA.heap h1 (fun h => h), h2⟩⟩)
theorem LsR.two {base : Nat} {W : World} {s t : Tm} {u v : Value} (hb : base ≤ W.heap.size) (hs : TlR (fun k => base ≤ k ∧ NZ W k) W s.kids u) (ht : TlR (fun k => base ≤ k ∧ NZ W k) W t.kids v) (hz : s.name ≠ ⟨#[]⟩) : LsR base [s, t] 2 W.heap.size (W.alloc (.cells #[.string s.name, .string s.sort, u, .string t.name, .string t.sort, v] 25)) := by
  have hA := (Upd.refl (fun _ => False) W).alloc (.cells #[.string s.name, .string s.sort, u, .string t.name, .string t.sort, v] 25)
  have h0 := alloc0 W (.cells #[.string s.name, .string s.sort, u, .string t.name, .string t.sort, v] 25)
  have hw : ∀ k, (base ≤ k ∧ NZ W k) → base ≤ k ∧ NZ (W.alloc (.cells #[.string s.name, .string s.sort, u, .string t.name, .string t.sort, v] 25)) k := fun k hk => ⟨hk.1, by obtain ⟨o, h1, h2⟩ := hk.2; exact ⟨o, hA.heap h1 (fun h => h), h2⟩⟩
  refine ⟨hb, by simp, pair_tl h0 ⟨hb, _, h0, fun e => ?_⟩ ((hs.ext hA).weaken hw) ((ht.ext hA).weaken hw)⟩
  injection e with e
  have := congrArg Array.size e
  simp at this
set_option maxRecDepth 100000 in
set_option maxHeartbeats 2000000 in
theorem awake_x (w : World) (htab : AscT w) (hpow : Lib.TabIs Tryz.prog w "internal/strconv.uint64pow10" .u64 Lib.pow10Tab) : Calls Tryz.prog 9 #[] w fun e w' => e = .returned (.bool true) ∧ Ext w w' := by
  have HTAB := Lib.hid htab
  have HPW := Lib.hid hpow
  have HZ : Hid (Ext w ((w.alloc (.cells #[.string ⟨#[78]⟩, .string ⟨#[110, 97, 116]⟩, .slice none 0 0] 25)).alloc (.cells #[.string ⟨#[77]⟩, .string ⟨#[110, 97, 116]⟩, .slice none 0 0] 25))) := Lib.hid (((Upd.refl (fun _ => False) w).alloc _).alloc _)
  have hbn : ((w.alloc (.cells #[.string ⟨#[78]⟩, .string ⟨#[110, 97, 116]⟩, .slice none 0 0] 25)).alloc (.cells #[.string ⟨#[77]⟩, .string ⟨#[110, 97, 116]⟩, .slice none 0 0] 25)).heap[w.heap.size]? = some (.cells #[.string ⟨#[78]⟩, .string ⟨#[110, 97, 116]⟩, .slice none 0 0] 25 (0, 0)) := allocOld (alloc0 w (.cells #[.string ⟨#[78]⟩, .string ⟨#[110, 97, 116]⟩, .slice none 0 0] 25)) (.cells #[.string ⟨#[77]⟩, .string ⟨#[110, 97, 116]⟩, .slice none 0 0] 25)
  have hbm : ((w.alloc (.cells #[.string ⟨#[78]⟩, .string ⟨#[110, 97, 116]⟩, .slice none 0 0] 25)).alloc (.cells #[.string ⟨#[77]⟩, .string ⟨#[110, 97, 116]⟩, .slice none 0 0] 25)).heap[w.heap.size + 1]? = some (.cells #[.string ⟨#[77]⟩, .string ⟨#[110, 97, 116]⟩, .slice none 0 0] 25 (0, 0)) := alloc_at (w.alloc (.cells #[.string ⟨#[78]⟩, .string ⟨#[110, 97, 116]⟩, .slice none 0 0] 25)) (.cells #[.string ⟨#[77]⟩, .string ⟨#[110, 97, 116]⟩, .slice none 0 0] 25) (n := w.heap.size + 1) (by simp)
  clear htab hpow
  go_enter Tryz.func9, Tryz.ntmps9
  go_wp2_with fail
  generalize hw3 : ((w.alloc (.cells #[.string ⟨#[78]⟩, .string ⟨#[110, 97, 116]⟩, .slice none 0 0] 25)).alloc (.cells #[.string ⟨#[77]⟩, .string ⟨#[110, 97, 116]⟩, .slice none 0 0] 25)) = w3 at *
  clear hw3
  have n0 := cellRow hbn 0 (.string ⟨#[78]⟩) rfl
  have n1 := cellRow hbn 1 (.string ⟨#[110, 97, 116]⟩) rfl
  have n2 := cellRow hbn 2 (.slice none 0 0) rfl
  have m0 := cellRow hbm 0 (.string ⟨#[77]⟩) rfl
  have m1 := cellRow hbm 1 (.string ⟨#[110, 97, 116]⟩) rfl
  have m2 := cellRow hbm 2 (.slice none 0 0) rfl
  have x0 := fun x : XW w3 => x.ext.cell n0 (fun h => h)
  have x1 := fun x : XW w3 => x.ext.cell n1 (fun h => h)
  have x2 := fun x : XW w3 => x.ext.cell n2 (fun h => h)
  have y0 := fun x : XW w3 => x.ext.cell m0 (fun h => h)
  have y1 := fun x : XW w3 => x.ext.cell m1 (fun h => h)
  have y2 := fun x : XW w3 => x.ext.cell m2 (fun h => h)
  have HBN := Lib.hid hbn
  have HBM := Lib.hid hbm
  clear n0 n1 n2 m0 m1 m2 hbn hbm
  go_cut [3, 4] (fun p3 p4 ww => ∃ z3 z4 a5 a11 : Nat, p3 = .pointer (some ⟨z3, 0, none⟩) ∧ p4 = .pointer (some ⟨z4, 0, none⟩) ∧ Hid (w3.heap.size ≤ z3 ∧ w3.heap.size ≤ z4) ∧ Hid (Ext w3 ww) ∧ Hid (ww.heap[z3]? = some (.cells #[.string ⟨#[112, 108, 117, 115]⟩, .string ⟨#[]⟩, .slice (some ⟨a5, 0, none⟩) 2 2] 25 (0, 0))) ∧ Hid (ww.heap[z4]? = some (.cells #[.string ⟨#[115]⟩, .string ⟨#[]⟩, .slice (some ⟨a11, 0, none⟩) 1 1] 25 (0, 0))) ∧ Hid (TlR (fun k => k < ww.heap.size) ww [eS, eM] (.slice (some ⟨a5, 0, none⟩) 2 2)) ∧ Hid (TlR (fun k => k < ww.heap.size) ww [eP] (.slice (some ⟨a11, 0, none⟩) 1 1)))
  case first =>
    refine PF.wp_region_parF (α := Nat) 14 [] 14 [(14, 2), (15, 2)] [[], [0], [0, 1], [], [0, 1, 2, 3], [0, 1, 2, 3, 4], [], [], [6, 7], [0, 1, 2, 3, 4, 5, 6, 7, 8], [0, 1, 2, 3, 4, 5, 6, 7, 8, 9], [0, 1, 2, 3, 4, 5, 6, 7, 8, 9, 10], [], [], [0, 1, 2, 3, 4, 5, 6, 7, 8, 9, 10, 11, 12, 13], [0, 1, 2, 3, 4, 5, 6, 7, 8, 9, 10, 11, 12, 13, 14]]
      [none, some (annS w3.heap.size [eN] 1), some (annC w3.heap.size [eN] 1 ⟨#[115]⟩), none, some (annS w3.heap.size [eS, eM] 2), some (annC w3.heap.size [eS, eM] 2 ⟨#[112, 108, 117, 115]⟩), none, none, some (annS w3.heap.size [eN, eM] 2), some (annC w3.heap.size [eN, eM] 2 ⟨#[112, 108, 117, 115]⟩), some (annS w3.heap.size [eP] 1), some (annC w3.heap.size [eP] 1 ⟨#[115]⟩), some (annZ w3.heap.size), some (annZ w3.heap.size)]
      [false, true, true, false, true, true, false, false, true, true, true, true, true, true] (by kernel_rfl) (by kernel_rfl) rfl (fun _ _ d _ _ h => by cases d <;> exact h) ?_
    simp only [List.take_succ_cons, List.take_zero, pickO, List.getElem?_cons_zero, List.getElem?_cons_succ]
    refine PF.can_pure0 rfl (fun K hK => ?_); go_simp; refine hK _ ?_; clear hK K
    refine PF.can_mem _ rfl (by go_simp) (fun W hW hG K hK => ?_) (fun K z1 hK => ?_)
    · go_simp
      exact hK W.heap.size _ ((Upd.refl (fun _ => False) W).alloc _) (LsR.one (t := eN) hW.size (TlR.nil _ _) (by decide)) (fun k e => by injection e with e; omega)
    refine hK _ ?_; clear hK K
    dsimp only [annS, annC, annZ]
    refine PF.can_mem _ rfl (by go_simp) (fun W hW hG K hK => ?_) (fun K z2 hK => ?_)
    · have g := hG _ (List.mem_append_right _ (List.mem_singleton.2 rfl)) (by show (1 : Nat) ∈ _; decide)
      go_simp
      refine (op_x ⟨#[115]⟩ _ 1 1 W).mono ?_
      rintro e w' ⟨rfl, hE⟩
      exact hK z1 _ hE (LsR.ext g hE) (fun k e => by cases e)
    refine hK _ ?_; clear hK K
    dsimp only [annS, annC, annZ]
    refine PF.can_pure0 rfl (fun K hK => ?_); go_simp; refine hK _ ?_; clear hK K
    refine PF.can_mem _ rfl (by go_simp) (fun W hW hG K hK => ?_) (fun K z4 hK => ?_)
    · have g := hG _ (List.mem_append_right _ (List.mem_singleton.2 rfl)) (by show (2 : Nat) ∈ _; decide)
      go_simp
      exact hK W.heap.size _ ((Upd.refl (fun _ => False) W).alloc _) (LsR.two (s := eS) (t := eM) hW.size g.2.2 (TlR.nil _ _) (by decide)) (fun k e => by injection e with e; omega)
    refine hK _ ?_; clear hK K
    dsimp only [annS, annC, annZ]
    refine PF.can_mem _ rfl (by go_simp) (fun W hW hG K hK => ?_) (fun K z5 hK => ?_)
    · have g := hG _ (List.mem_append_right _ (List.mem_singleton.2 rfl)) (by show (4 : Nat) ∈ _; decide)
      go_simp
      refine (op_x ⟨#[112, 108, 117, 115]⟩ _ 2 2 W).mono ?_
      rintro e w' ⟨rfl, hE⟩
      exact hK z4 _ hE (LsR.ext g hE) (fun k e => by cases e)
    refine hK _ ?_; clear hK K
    dsimp only [annS, annC, annZ]
    refine PF.can_pure0 rfl (fun K hK => ?_); go_simp; refine hK _ ?_; clear hK K
    refine PF.can_pure0 rfl (fun K hK => ?_); go_simp; refine hK _ ?_; clear hK K
    refine PF.can_mem _ rfl (by go_simp) (fun W hW hG K hK => ?_) (fun K z8 hK => ?_)
    · go_simp
      exact hK W.heap.size _ ((Upd.refl (fun _ => False) W).alloc _) (LsR.two (s := eN) (t := eM) hW.size (TlR.nil _ _) (TlR.nil _ _) (by decide)) (fun k e => by injection e with e; omega)
    refine hK _ ?_; clear hK K
    dsimp only [annS, annC, annZ]
    refine PF.can_mem _ rfl (by go_simp) (fun W hW hG K hK => ?_) (fun K z9 hK => ?_)
    · have g := hG _ (List.mem_append_right _ (List.mem_singleton.2 rfl)) (by show (8 : Nat) ∈ _; decide)
      go_simp
      refine (op_x ⟨#[112, 108, 117, 115]⟩ _ 2 2 W).mono ?_
      rintro e w' ⟨rfl, hE⟩
      exact hK z8 _ hE (LsR.ext g hE) (fun k e => by cases e)
    refine hK _ ?_; clear hK K
    dsimp only [annS, annC, annZ]
    refine PF.can_mem _ rfl (by go_simp) (fun W hW hG K hK => ?_) (fun K z10 hK => ?_)
    · have g := hG _ (List.mem_append_right _ (List.mem_singleton.2 rfl)) (by show (9 : Nat) ∈ _; decide)
      go_simp
      exact hK W.heap.size _ ((Upd.refl (fun _ => False) W).alloc _) (LsR.one (t := eP) hW.size g.2.2 (by decide)) (fun k e => by injection e with e; omega)
    refine hK _ ?_; clear hK K
    dsimp only [annS, annC, annZ]
    refine PF.can_mem _ rfl (by go_simp) (fun W hW hG K hK => ?_) (fun K z11 hK => ?_)
    · have g := hG _ (List.mem_append_right _ (List.mem_singleton.2 rfl)) (by show (10 : Nat) ∈ _; decide)
      go_simp
      refine (op_x ⟨#[115]⟩ _ 1 1 W).mono ?_
      rintro e w' ⟨rfl, hE⟩
      exact hK z10 _ hE (LsR.ext g hE) (fun k e => by cases e)
    refine hK _ ?_; clear hK K
    dsimp only [annS, annC, annZ]
    refine PF.can_mem _ rfl (by go_simp) (fun W hW hG K hK => ?_) (fun K z12 hK => ?_)
    · go_simp
      exact hK W.heap.size _ ((Upd.refl (fun _ => False) W).alloc _) (⟨hW.size, alloc0 _ _⟩) (fun k e => by injection e with e; omega)
    refine hK _ ?_; clear hK K
    dsimp only [annS, annC, annZ]
    refine PF.can_mem _ rfl (by go_simp) (fun W hW hG K hK => ?_) (fun K z13 hK => ?_)
    · go_simp
      exact hK W.heap.size _ ((Upd.refl (fun _ => False) W).alloc _) (⟨hW.size, alloc0 _ _⟩) (fun k e => by injection e with e; omega)
    refine hK _ ?_; clear hK K
    dsimp only [annS, annC, annZ]
    unfold PF.Can
    intro w8 hW hG hAp
    have g13 := pk_last hG
    have hG := pk_init hG
    have g12 := pk_last hG
    have hG := pk_init hG
    have g11 := pk_last hG
    have hG := pk_init (pk_init (pk_init (pk_init hG)))
    have g5 := pk_last hG
    have hap := apt_two hAp
    clear hG hAp
    dsimp only [annS, annC, annZ] at g5 g11 g12 g13 hap
    have hne : z12 ≠ z13 := fun e => hap z12 rfl (by rw [e])
    have hne2 : ¬ z13 = z12 := fun e => hne e.symm
    have G5 := Lib.hid g5
    have G11 := Lib.hid g11
    have G12 := Lib.hid g12
    have G13 := Lib.hid g13
    have HW := Lib.hid hW
    have k0 := cellRow g12.2 0 (.string ⟨#[]⟩) rfl
    have k1 := cellRow g12.2 1 (.string ⟨#[]⟩) rfl
    have k2 := cellRow g12.2 2 (.slice none 0 0) rfl
    have l0 := cellRow g13.2 0 (.string ⟨#[]⟩) rfl
    have l1 := cellRow g13.2 1 (.string ⟨#[]⟩) rfl
    have l2 := cellRow g13.2 2 (.slice none 0 0) rfl
    have fk := fun i => frozenRow g12.2 i
    have fl := fun i => frozenRow g13.2 i
    clear g5 g11 g12 g13 hap hW
    refine mix_two ?_; intro K hK; go_simp; refine hK _ _ ?_; clear hK K
    refine mix_two ?_; intro K hK; go_simp; refine hK _ _ ?_; clear hK K
    simp only [wpMix]
    go_wp2_with fail
    go_meet
    case rel =>
      have hB12 := set3_heap G12.out.2 (.string ⟨#[112, 108, 117, 115]⟩) (.string ⟨#[]⟩) (.slice (some ⟨z5, 0, none⟩) 2 2)
      have hU12 := set3_upd w8 z12 (.string ⟨#[112, 108, 117, 115]⟩) (.string ⟨#[]⟩) (.slice (some ⟨z5, 0, none⟩) 2 2)
      generalize ((w8.setCell ⟨z12, 0, none⟩ (.string ⟨#[112, 108, 117, 115]⟩)).setCell ⟨z12, 1, none⟩ (.string ⟨#[]⟩)).setCell ⟨z12, 2, none⟩ (.slice (some ⟨z5, 0, none⟩) 2 2) = w9 at *
      have hB13 := set3_heap (hU12.heap G13.out.2 hne2) (.string ⟨#[115]⟩) (.string ⟨#[]⟩) (.slice (some ⟨z11, 0, none⟩) 1 1)
      have hU13 := set3_upd w9 z13 (.string ⟨#[115]⟩) (.string ⟨#[]⟩) (.slice (some ⟨z11, 0, none⟩) 1 1)
      generalize ((w9.setCell ⟨z13, 0, none⟩ (.string ⟨#[115]⟩)).setCell ⟨z13, 1, none⟩ (.string ⟨#[]⟩)).setCell ⟨z13, 2, none⟩ (.slice (some ⟨z11, 0, none⟩) 1 1) = wA at *
      have hU : Upd (fun k => k = z12 ∨ k = z13) w8 wA := (hU12.mono (fun _ _ h => .inl h)).trans (hU13.mono (fun _ _ h => .inr h))
      have hNZ : ∀ k, (w3.heap.size ≤ k ∧ NZ w8 k) → ¬ (k = z12 ∨ k = z13) := by
        rintro k ⟨_, o, h1, h2⟩ h3
        rcases h3 with rfl | rfl
        · rw [G12.out.2] at h1; injection h1 with h1; exact h2 h1.symm
        · rw [G13.out.2] at h1; injection h1 with h1; exact h2 h1.symm
      have hLT : ∀ k, (w3.heap.size ≤ k ∧ NZ w8 k) → k < wA.heap.size := by
        rintro k ⟨_, o, h1, _⟩
        exact Nat.lt_of_lt_of_le (Array.getElem?_eq_some_iff.1 h1).1 hU.size
      refine ⟨z12, z13, z5, z11, rfl, rfl, Lib.hid ⟨G12.out.1, G13.out.1⟩, Lib.hid (HW.out.trans' hU (fun j hj h => ?_)), Lib.hid (hU13.heap hB12 hne), Lib.hid hB13, Lib.hid ((G5.out.2.2.kept hU hNZ).weaken hLT), Lib.hid ((G11.out.2.2.kept hU hNZ).weaken hLT)⟩
      have h1 := G12.out.1
      have h2 := G13.out.1
      omega
  case rest =>
    obtain ⟨z3, z4, a5, a11, rfl, rfl, HB0, HE0, HL0, HR0, HT0, HU0⟩ := hcut
    have HEW : Hid (Ext w wc) := Lib.hid (HZ.out.trans HE0.out)
    clear HB0 HE0 HZ HBN HBM x0 x1 x2 y0 y1 y2
    have HA : Hid (∀ W, Ext wc W → TmR (fun k => k < W.heap.size) W eL (tV eL (.slice (some ⟨a5, 0, none⟩) 2 2))) := Lib.hid (fun W hW => ⟨some ⟨a5, 0, none⟩, 2, rfl, (HT0.out.ext hW).weaken (fun k hk => Nat.lt_of_lt_of_le hk hW.size)⟩)
    have HB : Hid (∀ W, Ext wc W → TmR (fun k => k < W.heap.size) W eR (tV eR (.slice (some ⟨a11, 0, none⟩) 1 1))) := Lib.hid (fun W hW => ⟨some ⟨a11, 0, none⟩, 1, rfl, (HU0.out.ext hW).weaken (fun k hk => Nat.lt_of_lt_of_le hk hW.size)⟩)
    have HG : Hid (∀ (l : List By) (W : World), Ext wc W → l.length ≤ 1000 → Calls Tryz.prog 12 #[.slice (some ⟨W.heap.size, 0, none⟩) l.length l.length, tV eL (.slice (some ⟨a5, 0, none⟩) 2 2), tV eR (.slice (some ⟨a11, 0, none⟩) 1 1)] (W.alloc (.cells (l.map Value.string).toArray 9)) fun e w' => e = .returned (.tuple #[.bool (grF l eL eR).1, .int .i64 (grF l eL eR).2]) ∧ Ext (W.alloc (.cells (l.map Value.string).toArray 9)) w') := Lib.hid (fun l W hW hl =>
      pgreater_x l eL eR _ _ _ _ _ (asc_ext HTAB.out ((HEW.out.trans hW).alloc _)) (pow_upd HPW.out ((HEW.out.trans hW).alloc _) (fun _ _ h => h)) (lit_str W l hl) (HA.out _ (hW.alloc _)) (HB.out _ (hW.alloc _)) (fun k h => h) (by omega) (by decide) (by decide))
    have HG1 : Hid (Calls Tryz.prog 12 #[.slice (some ⟨wc.heap.size, 0, none⟩) 4 4, tV eL (.slice (some ⟨a5, 0, none⟩) 2 2), tV eR (.slice (some ⟨a11, 0, none⟩) 1 1)] (wc.alloc (.cells #[.string ⟨#[116, 105, 109, 101, 115]⟩, .string ⟨#[112, 108, 117, 115]⟩, .string ⟨#[115]⟩, .string ⟨#[122, 101, 114, 111]⟩] 9)) fun e w' => e = .returned (.tuple #[.bool true, .int .i64 0]) ∧ Ext (wc.alloc (.cells #[.string ⟨#[116, 105, 109, 101, 115]⟩, .string ⟨#[112, 108, 117, 115]⟩, .string ⟨#[115]⟩, .string ⟨#[122, 101, 114, 111]⟩] 9)) w') := Lib.hid (by
      have h := HG.out [tIM, pLU, sSS, zER] wc (Upd.refl _ _) (by decide)
      rw [gr1] at h
      exact h)
    have c0 := allocOld HL0.out (.cells #[.string ⟨#[116, 105, 109, 101, 115]⟩, .string ⟨#[112, 108, 117, 115]⟩, .string ⟨#[115]⟩, .string ⟨#[122, 101, 114, 111]⟩] 9)
    have c1 := allocOld HR0.out (.cells #[.string ⟨#[116, 105, 109, 101, 115]⟩, .string ⟨#[112, 108, 117, 115]⟩, .string ⟨#[115]⟩, .string ⟨#[122, 101, 114, 111]⟩] 9)
    have k0 := cellRow c0 0 (.string ⟨#[112, 108, 117, 115]⟩) rfl
    have l0 := cellRow c1 0 (.string ⟨#[115]⟩) rfl
    have k1 := cellRow c0 1 (.string ⟨#[]⟩) rfl
    have l1 := cellRow c1 1 (.string ⟨#[]⟩) rfl
    have k2 := cellRow c0 2 (.slice (some ⟨a5, 0, none⟩) 2 2) rfl
    have l2 := cellRow c1 2 (.slice (some ⟨a11, 0, none⟩) 1 1) rfl
    dsimp only [tV, Tm.name, Tm.sort, Tm.kids] at HG1
    clear c0 c1
    go_wp2_with fail
    refine HG1.out.mono ?_
    rintro e w4 ⟨rfl, hw4⟩
    have H4 : Hid (Ext wc w4) := Lib.hid ((Upd.refl _ _).alloc _ |>.trans hw4)
    have HL4 := Lib.hid (H4.out.heap HL0.out (fun h => h))
    have HR4 := Lib.hid (H4.out.heap HR0.out (fun h => h))
    clear hw4 HG1 k0 k1 k2 l0 l1 l2
    have HG2 : Hid (Calls Tryz.prog 12 #[.slice (some ⟨w4.heap.size, 0, none⟩) 2 2, tV eL (.slice (some ⟨a5, 0, none⟩) 2 2), tV eR (.slice (some ⟨a11, 0, none⟩) 1 1)] (w4.alloc (.cells #[.string ⟨#[115]⟩, .string ⟨#[112, 108, 117, 115]⟩] 9)) fun e w' => e = .returned (.tuple #[.bool false, .int .i64 0]) ∧ Ext (w4.alloc (.cells #[.string ⟨#[115]⟩, .string ⟨#[112, 108, 117, 115]⟩] 9)) w') := Lib.hid (by
      have h := HG.out [sSS, pLU] w4 H4.out (by decide)
      rw [gr2] at h
      exact h)
    have c0 := allocOld HL4.out (.cells #[.string ⟨#[115]⟩, .string ⟨#[112, 108, 117, 115]⟩] 9)
    have c1 := allocOld HR4.out (.cells #[.string ⟨#[115]⟩, .string ⟨#[112, 108, 117, 115]⟩] 9)
    have k0 := cellRow c0 0 (.string ⟨#[112, 108, 117, 115]⟩) rfl
    have l0 := cellRow c1 0 (.string ⟨#[115]⟩) rfl
    have k1 := cellRow c0 1 (.string ⟨#[]⟩) rfl
    have l1 := cellRow c1 1 (.string ⟨#[]⟩) rfl
    have k2 := cellRow c0 2 (.slice (some ⟨a5, 0, none⟩) 2 2) rfl
    have l2 := cellRow c1 2 (.slice (some ⟨a11, 0, none⟩) 1 1) rfl
    dsimp only [tV, Tm.name, Tm.sort, Tm.kids] at HG2
    clear c0 c1
    go_wp2_with fail
    refine HG2.out.mono ?_
    rintro e w5 ⟨rfl, hw5⟩
    have H5 : Hid (Ext wc w5) := Lib.hid ((H4.out.alloc _).trans hw5)
    have c0 := H5.out.heap HL0.out (fun h => h)
    have c1 := H5.out.heap HR0.out (fun h => h)
    clear hw5 HG2 HG k0 k1 k2 l0 l1 l2
    have k0 := cellRow c0 0 (.string ⟨#[112, 108, 117, 115]⟩) rfl
    have l0 := cellRow c1 0 (.string ⟨#[115]⟩) rfl
    have k1 := cellRow c0 1 (.string ⟨#[]⟩) rfl
    have l1 := cellRow c1 1 (.string ⟨#[]⟩) rfl
    have k2 := cellRow c0 2 (.slice (some ⟨a5, 0, none⟩) 2 2) rfl
    have l2 := cellRow c1 2 (.slice (some ⟨a11, 0, none⟩) 1 1) rfl
    have HF : Hid (Calls Tryz.prog 19 #[.slice (some ⟨w5.heap.size, 0, none⟩) 1 1] (w5.alloc (.cells #[.string ⟨#[112, 108, 117, 115]⟩, .string ⟨#[]⟩, .slice (some ⟨a5, 0, none⟩) 2 2, .string ⟨#[115]⟩, .string ⟨#[]⟩, .slice (some ⟨a11, 0, none⟩) 1 1] 38)) fun e w' => ∃ r, e = .returned (.tuple #[r, .int .i64 0]) ∧ (∃ a len cap, r = .slice a len cap) ∧ StR (fun _ => True) w' r [pLU, sSS] ∧ Ext (w5.alloc (.cells #[.string ⟨#[112, 108, 117, 115]⟩, .string ⟨#[]⟩, .slice (some ⟨a5, 0, none⟩) 2 2, .string ⟨#[115]⟩, .string ⟨#[]⟩, .slice (some ⟨a11, 0, none⟩) 1 1] 38)) w') := Lib.hid (by
      have hE := H5.out.alloc (.cells #[.string ⟨#[112, 108, 117, 115]⟩, .string ⟨#[]⟩, .slice (some ⟨a5, 0, none⟩) 2 2, .string ⟨#[115]⟩, .string ⟨#[]⟩, .slice (some ⟨a11, 0, none⟩) 1 1] 38)
      have h := find_x [(eL, eR)] (.slice (some ⟨w5.heap.size, 0, none⟩) 1 1) (w5.alloc (.cells #[.string ⟨#[112, 108, 117, 115]⟩, .string ⟨#[]⟩, .slice (some ⟨a5, 0, none⟩) 2 2, .string ⟨#[115]⟩, .string ⟨#[]⟩, .slice (some ⟨a11, 0, none⟩) 1 1] 38)) ⟨some ⟨w5.heap.size, 0, none⟩, 1, rfl, pair_tl6 (alloc0 w5 _) (by simp) (HT0.out.ext hE |>.weaken (fun k hk => Nat.lt_of_lt_of_le hk hE.size)) (HU0.out.ext hE |>.weaken (fun k hk => Nat.lt_of_lt_of_le hk hE.size))⟩ (asc_ext HTAB.out (HEW.out.trans hE)) (pow_upd HPW.out (HEW.out.trans hE) (fun _ _ h => h)) (by decide) (by decide)
      rw [fi1] at h
      exact h)
    clear c0 c1
    go_wp2_with fail
    refine HF.out.mono ?_
    rintro e w6 ⟨r, rfl, _, hs6, hw6⟩
    have H6 : Hid (Ext wc w6) := Lib.hid ((H5.out.alloc _).trans hw6)
    have HS6 := Lib.hid hs6
    obtain ⟨ra, rc, hrv⟩ := SlR.shape hs6
    subst hrv
    clear hw6 HF k0 k1 k2 l0 l1 l2 hs6
    have HQ : Hid (Calls Tryz.prog 21 #[.slice ra 2 rc, .slice (some ⟨w6.heap.size, 0, none⟩) 2 2] (w6.alloc (.cells #[.string ⟨#[112, 108, 117, 115]⟩, .string ⟨#[115]⟩] 9)) fun e w' => e = .returned (.bool true) ∧ Ext (w6.alloc (.cells #[.string ⟨#[112, 108, 117, 115]⟩, .string ⟨#[115]⟩] 9)) w') := Lib.hid (by
      have h := eqs_x [pLU, sSS] [pLU, sSS] _ _ _ _ _ (SlR.kept HS6.out ((Upd.refl (fun _ => False) w6).alloc (.cells #[.string ⟨#[112, 108, 117, 115]⟩, .string ⟨#[115]⟩] 9)) (fun _ _ h => h)) (lit_str w6 [pLU, sSS] (by decide)) (by decide) (by decide)
      rw [decide_eq_true rfl] at h
      exact h)
    dsimp only [List.length_cons, List.length_nil]
    go_wp2_with fail
    all_goals (refine HQ.out.mono ?_)
    all_goals (rintro e w7 ⟨rfl, hw7⟩)
    all_goals (have H7 : Hid (Ext wc w7) := Lib.hid ((H6.out.alloc _).trans hw7))
    all_goals (clear hw7 HQ)
    all_goals (go_wp2_with fail)
    all_goals go_ret
    all_goals (exact ⟨rfl, HEW.out.trans H7.out⟩)

end Go.Proofs.YtiimccogojkldaaGreatDoor
