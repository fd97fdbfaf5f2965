/- The texts I47 I48 OT I49, one behind the other. -/
import Derived.Test.YtiimccogojkldaaGreatDoorZH
import Derived.Test.YtiimccogojkldaaGreatDoorZB
import Derived.Test.YtiimccogojkldaaGreatDoorRows
import Derived.Lib.SmallJoins
import Derived.OpenShut
import Derived.Deep.SlicePairs
import Derived.ProofKit
import Derived.SizedLaws
/- Large terms. -/
namespace Go.Proofs.YtiimccogojkldaaGreatDoor
open Go.RowKit Go.Hw Go
set_option linter.unusedVariables false
set_option linter.unusedSimpArgs false

open Tm
theorem ndFs_pos (d : Nat) : ∀ (L : List Tm) (left : Int), -1 ≤ left → -1 ≤ ndFs d left L ∧ ndFs d left L ≤ left ∧ (0 ≤ ndFs d left L → ndFs d left L + sizes L = left)
  | [], left, h => by simp only [ndFs, sizes]; exact ⟨h, by omega, fun _ => by omega⟩
  | a :: L, left, h => by
    simp only [ndFs, sizes]
    by_cases h2 : left < 0
    · simp only [h2, if_true]; exact ⟨h, by omega, fun h3 => by omega⟩
    · simp only [h2, if_false]
      obtain ⟨h3, h4, h5⟩ := ndF_bd a d left h
      obtain ⟨h6, h7, h8⟩ := ndFs_pos d L _ h3
      refine ⟨h6, by omega, fun h9 => ?_⟩
      have := h8 h9
      have := h5 (by omega)
      omega
set_option maxRecDepth 100000 in
set_option maxHeartbeats 2000000 in
theorem nodes_x8 : ∀ (t : Tm) (d : Nat) (left : Int) (v : Value) (S : Nat → Prop) (w : World), TmR S w t v → d ≤ 1000 → -1 ≤ left → left ≤ 1000 →
    Calls Tryz.prog 38 #[v, .int .i64 left, .int .i64 (d : Int)] w fun e w' => e = .returned (.int .i64 (ndF d left t)) ∧ Ext w w' := by
  refine Tm.ind (fun nm so L ih => ?_)
  intro d left v S w hR hd hl0 hl1
  obtain ⟨a, cap, rfl, hT⟩ := hR
  dsimp only [tV, Tm.name, Tm.sort, Tm.kids] at hT ⊢
  have HTL := Lib.hid hT
  have HIH := Lib.hid ih
  clear ih hT
  have HZ : Hid (Ext w (w.alloc (.cells #[.string nm, .string so, .slice a L.length cap] 25))) := Lib.hid ((Upd.refl (fun _ => False) w).alloc (.cells #[.string nm, .string so, .slice a L.length cap] 25))
  have HB := Lib.hid (alloc0 w (.cells #[.string nm, .string so, .slice a L.length cap] 25))
  have c0 := cellRow HB.out 0 (.string nm) rfl
  have c1 := cellRow HB.out 1 (.string so) rfl
  have c2 := cellRow HB.out 2 (.slice a L.length cap) rfl
  by_cases h1 : left ≤ 0
  · have t1 : decide (left ≤ 0) = true := decide_eq_true h1
    have hr : ndF d left (.mk nm so L) = -1 := by rw [ndF_mk, if_pos (.inl h1)]
    rw [hr]
    clear hr HIH
    go_enter Tryz.func38, Tryz.ntmps38
    go_wp2_with fail
    go_ret
    exact ⟨rfl, HZ.out⟩
  have t1 : decide (left ≤ 0) = false := decide_eq_false h1
  by_cases h2 : d = 0
  · subst h2
    have t2 : (((0 : Nat) : Int) == 0) = true := rfl
    have hr : ndF 0 left (.mk nm so L) = -1 := by rw [ndF_mk, if_pos (.inr (.inl rfl))]
    rw [hr]
    clear hr HIH
    go_enter Tryz.func38, Tryz.ntmps38
    go_wp2_with fail
    go_ret
    exact ⟨rfl, HZ.out⟩
  have t2 : ((d : Int) == 0) = false := beq_eq_false_iff_ne.2 (by omega)
  have t2' : ¬ (d : Int) = 0 := by omega
  by_cases h3 : 100 < nm.size
  · have t3 : decide ((100 : Int) < (nm.size : Int)) = true := decide_eq_true (by omega)
    have t3' : decide (100 < nm.size) = true := decide_eq_true h3
    have hr : ndF d left (.mk nm so L) = -1 := by rw [ndF_mk, if_pos (.inr (.inr (.inl h3)))]
    rw [hr]
    clear hr HIH
    go_enter Tryz.func38, Tryz.ntmps38
    go_wp2_with fail
    go_ret
    exact ⟨rfl, HZ.out⟩
  have t3 : decide ((100 : Int) < (nm.size : Int)) = false := decide_eq_false (by omega)
  have t3' : decide (100 < nm.size) = false := decide_eq_false h3
  by_cases h4 : 100 < so.size
  · have t4 : decide ((100 : Int) < (so.size : Int)) = true := decide_eq_true (by omega)
    have t4' : decide (100 < so.size) = true := decide_eq_true h4
    have hr : ndF d left (.mk nm so L) = -1 := by rw [ndF_mk, if_pos (.inr (.inr (.inr h4)))]
    rw [hr]
    clear hr HIH
    go_enter Tryz.func38, Tryz.ntmps38
    go_wp2_with fail
    go_ret
    exact ⟨rfl, HZ.out⟩
  have t4 : decide ((100 : Int) < (so.size : Int)) = false := decide_eq_false (by omega)
  have t4' : decide (100 < so.size) = false := decide_eq_false h4
  have HV : Hid (ndF d left (.mk nm so L) = ndFs (d - 1) (left - 1) L) := Lib.hid (by
    rw [ndF_mk, if_neg]
    rintro (h | h | h | h)
    · exact h1 h
    · exact h2 h
    · exact h3 h
    · exact h4 h)
  have w1 : IntKind.i64.wrap (left - 1) = left - 1 := IntWalk.i64_in _ (by omega)
  have w2 : IntKind.i64.wrap ((d : Int) - 1) = ((d - 1 : Nat) : Int) := by rw [IntWalk.i64_in _ (by omega)]; omega
  have HPS := Lib.hid (fun k => ndFs_pos (d - 1) (L.take k) (left - 1) (by omega))
  rw [HV.out]
  clear h1 h2 h3 h4
  go_enter Tryz.func38, Tryz.ntmps38
  go_wp2_with fail
  clear c0 c1 c2 t1 t2 t2' t3 t3' t4 t4' w1
  go_loopg [1, 7] L.length (fun gk lv iv wr => ∃ k : Nat, lv = .int .i64 (ndFs (d - 1) (left - 1) (L.take k)) ∧ iv = .int .i64 (k : Int) ∧ gk = L.length - k ∧ k ≤ L.length ∧ k ≤ 2000 ∧ Hid (Ext w wr) ∧ Hid (wr.heap[w.heap.size]? = some (.cells #[.string nm, .string so, .slice a L.length cap] 25 (0, 0))))
  case atStart => exact ⟨0, rfl, rfl, rfl, Nat.zero_le _, Nat.zero_le _, HZ, HB⟩
  case round =>
    clear HZ HB
    obtain ⟨k, rfl, rfl, rfl, hk, hk2, HE, HB⟩ := hrel
    have c2 := cellRow HB.out 2 (.slice a L.length cap) rfl
    obtain ⟨p1, p2, p3⟩ := HPS.out k
    by_cases hlt : k < L.length
    · have hsn : ndFs (d - 1) (left - 1) (L.take (k + 1)) = if ndFs (d - 1) (left - 1) (L.take k) < 0 then ndFs (d - 1) (left - 1) (L.take k) else ndF (d - 1) (ndFs (d - 1) (left - 1) (L.take k)) (tg L k) := by rw [tk_snoc L k hlt, ndFs_snoc]
      have happ := ndFs_app (d - 1) (L.drop k) (L.take k) (left - 1)
      rw [List.take_append_drop] at happ
      have hkz : k ≤ sizes (L.take k) := by have := length_le_sizes (L.take k); rw [List.length_take] at this; omega
      have HSN := Lib.hid hsn
      have HAP := Lib.hid happ
      obtain ⟨X, hX⟩ : ∃ X, ndFs (d - 1) (left - 1) (L.take k) = X := ⟨_, rfl⟩
      rw [hX] at p1 p2 p3 HSN HAP ⊢
      have z0 : (0 : Int) ≤ (k : Int) := by omega
      have z1 : (k : Int) < (L.length : Int) := by omega
      have z2 : decide ((k : Int) < (L.length : Int)) = true := decide_eq_true z1
      have z2' : decide (k < L.length) = true := decide_eq_true hlt
      clear hsn happ
      by_cases hx0 : 0 ≤ X
      · have y0 : decide (0 ≤ X) = true := decide_eq_true hx0
        obtain ⟨g, off, hga, _, hat⟩ := (HTL.out.ext HE.out).at_ (by omega)
        subst hga
        obtain ⟨xa, xc, q0, q1, q2, hkid⟩ := hat k hlt
        rw [← Nat.add_assoc] at q1 q2
        have HIX := Lib.hid (HIH.out (tg L k) (tg_mem L k hlt) (d - 1) X _ S wr ⟨xa, xc, rfl, hkid⟩ (by omega) p1 (by omega))
        have HS2 : Hid (ndFs (d - 1) (left - 1) (L.take (k + 1)) = ndF (d - 1) X (tg L k)) := Lib.hid (by rw [HSN.out, if_neg (by omega)])
        dsimp only [tV] at HIX
        obtain ⟨x, hx⟩ : ∃ x, tg L k = x := ⟨_, rfl⟩
        rw [hx] at q0 q1 q2 HIX HS2
        have hk3 : k ≤ 1999 := by have := p3 hx0; omega
        clear hat hkid hx p3 HSN HAP hX
        go_wp2_with fail
        refine HIX.out.mono ?_
        rintro e w8 ⟨rfl, hw8⟩
        have HE8 := Lib.hid (HE.out.trans hw8)
        have HB8 := Lib.hid (hw8.heap HB.out (fun h => h))
        clear hw8 c2 q0 q1 q2 HIX
        go_wp2_with fail
        go_roundg (L.length - (k + 1))
        case measure => omega
        case rel => exact ⟨k + 1, by rw [HS2.out], by go_num, rfl, by omega, by omega, HE8, HB8⟩
      · have y0 : decide (0 ≤ X) = false := decide_eq_false hx0
        have y1 : ¬ (0 ≤ X) := hx0
        have HVV := Lib.hid (HAP.out (by omega))
        clear HSN HAP hX p3
        go_wp2_with fail
        go_ret
        rw [HVV.out]
        exact ⟨rfl, HE.out⟩
    · obtain rfl : k = L.length := by omega
      have z2 : decide ((L.length : Int) < (L.length : Int)) = false := decide_eq_false (by omega)
      have htl : L.take L.length = L := List.take_length
      rw [htl]
      clear htl
      go_wp2_with fail
      go_ret
      exact ⟨rfl, HE.out⟩
set_option maxRecDepth 100000 in
set_option maxHeartbeats 2000000 in
theorem large_x (t : Tm) (v : Value) (S : Nat → Prop) (w : World) (hR : TmR S w t v) : Calls Tryz.prog 11 #[v] w fun e w' => e = .returned (.bool (largeB t)) ∧ Ext w w' := by
  have HN := Lib.hid (fun W (hW : Ext w W) => nodes_x8 t 12 30 _ S W (hR.ext hW) (by omega) (by omega) (by omega))
  obtain ⟨a, cap, rfl, hT⟩ := hR
  have HZ : Hid (Ext w (w.alloc (.cells #[.string t.name, .string t.sort, .slice a t.kids.length cap] 25))) := Lib.hid ((Upd.refl (fun _ => False) w).alloc (.cells #[.string t.name, .string t.sort, .slice a t.kids.length cap] 25))
  have hb := alloc0 w (.cells #[.string t.name, .string t.sort, .slice a t.kids.length cap] 25)
  dsimp only [tV] at HN ⊢
  have c0 := cellRow hb 0 (.string t.name) rfl
  have c1 := cellRow hb 1 (.string t.sort) rfl
  have c2 := cellRow hb 2 (.slice a t.kids.length cap) rfl
  have HV : Hid (largeB t = decide (ndF 12 30 t < 0)) := Lib.hid rfl
  rw [HV.out]
  generalize ndF 12 30 t = X at *
  clear hT hb
  go_enter Tryz.func11, Tryz.ntmps11
  go_wp2_with fail
  refine (HN.out _ HZ.out).mono ?_
  rintro e w4 ⟨rfl, hw4⟩
  have H4 := Lib.hid (HZ.out.trans hw4)
  clear hw4 c0 c1 c2
  go_wp2_with fail
  go_ret
  exact ⟨rfl, H4.out⟩

end Go.Proofs.YtiimccogojkldaaGreatDoor

/- Long names. -/
namespace Go.Proofs.YtiimccogojkldaaGreatDoor
open Go.RowKit Go.Hw Go
set_option linter.unusedVariables false
set_option linter.unusedSimpArgs false

open Tm
/-- what long answers -/
def LongP (l : List By) (e : Ending) : Prop := ∃ b : Bool, e = .returned (.bool b) ∧ (b = false → l.length ≤ 120)
theorem longP_mk {l : List By} (b : Bool) (h : b = false → l.length ≤ 120) : LongP l (.returned (.bool b)) := ⟨b, rfl, h⟩
theorem clo37_x (s : By) (w : World) : Calls Tryz.prog 37 #[.string s] w fun e w' => e = .returned (.bool (decide (100 < s.size))) ∧ Ext w w' := by
  have h1 : decide ((100 : Int) < (s.size : Int)) = decide (100 < s.size) := by rw [Bool.eq_iff_iff, decide_eq_true_eq, decide_eq_true_eq]; omega
  go_enter Tryz.func37, Tryz.ntmps37
  go_wp2_with fail
  go_ret
  first
    | exact ⟨rfl, Upd.refl _ _⟩
    | exact ⟨by rw [h1], Upd.refl _ _⟩
    | exact ⟨by simp, Upd.refl _ _⟩
set_option maxRecDepth 100000 in
set_option maxHeartbeats 2000000 in
theorem idxS37_x (l : List By) (v : Value) (S : Nat → Prop) (w : World) (hR : StR S w v l) (hl : l.length ≤ 1000000) :
    Calls Tryz.prog 71 #[v, .func (.func 37) #[] #[]] w fun e w' => ∃ r : Int, e = .returned (.int .i64 r) ∧ Ext w w' := by
  obtain ⟨a, cap, rfl⟩ := SlR.shape hR
  have HR := Lib.hid hR
  clear hR
  go_enter Tryz.func71, Tryz.ntmps71
  go_wp2_with fail
  go_loopg [8] l.length (fun gk iv wr => ∃ k : Nat, iv = .int .i64 (k : Int) ∧ gk = l.length - k ∧ k ≤ l.length ∧ Hid (Ext w wr))
  case atStart => exact ⟨0, rfl, rfl, Nat.zero_le _, Lib.hid (Upd.refl _ _)⟩
  case round =>
    obtain ⟨k, rfl, rfl, hk, HE⟩ := hrel
    by_cases hlt : k < l.length
    · obtain ⟨g, off, hga, _, hat⟩ := SlR.one_at (d := nul) (SlR.kept HR.out HE.out (fun _ _ h => h)) (by omega)
      subst hga
      have q0 := hat k hlt
      have z0 : (0 : Int) ≤ (k : Int) := by omega
      have z1 : (k : Int) < (l.length : Int) := by omega
      have z2 : decide ((k : Int) < (l.length : Int)) = true := decide_eq_true z1
      have z2' : decide (k < l.length) = true := decide_eq_true hlt
      obtain ⟨x, hx⟩ : ∃ x, l.getD k nul = x := ⟨_, rfl⟩
      rw [hx] at q0
      have HC := Lib.hid (clo37_x x wr)
      obtain ⟨b, hb⟩ : ∃ b, decide (100 < x.size) = b := ⟨_, rfl⟩
      rw [hb] at HC
      clear hat hx hb
      go_wp2_with fail
      refine HC.out.mono ?_
      rintro e w4 ⟨rfl, hw4⟩
      have H4 := Lib.hid (HE.out.trans hw4)
      clear hw4 q0 HC HE
      cases b
      · go_wp2_with fail
        go_roundg (l.length - (k + 1))
        case measure => omega
        case rel => exact ⟨k + 1, by go_num, rfl, by omega, H4⟩
      · go_wp2_with fail
        go_ret
        exact ⟨_, rfl, H4.out⟩
    · obtain rfl : k = l.length := by omega
      have z2 : decide ((l.length : Int) < (l.length : Int)) = false := decide_eq_false (by omega)
      go_wp2_with fail
      go_ret
      exact ⟨_, rfl, HE.out⟩
set_option maxRecDepth 100000 in
set_option maxHeartbeats 2000000 in
theorem conS37_x (l : List By) (v : Value) (S : Nat → Prop) (w : World) (hR : StR S w v l) (hl : l.length ≤ 1000000) :
    Calls Tryz.prog 36 #[v, .func (.func 37) #[] #[]] w fun e w' => ∃ b : Bool, e = .returned (.bool b) ∧ Ext w w' := by
  have HI := Lib.hid (idxS37_x l v S w hR hl)
  clear hR
  go_enter Tryz.func36, Tryz.ntmps36
  go_wp2_with fail
  refine HI.out.mono ?_
  rintro e w4 ⟨r, rfl, hw4⟩
  have H4 := Lib.hid hw4
  clear hw4
  go_wp2_with fail
  go_ret
  exact ⟨_, rfl, H4.out⟩
set_option maxRecDepth 100000 in
set_option maxHeartbeats 2000000 in
theorem long_x (l : List By) (v : Value) (S : Nat → Prop) (w : World) (hR : StR S w v l) : Calls Tryz.prog 10 #[v] w fun e w' => LongP l e ∧ Ext w w' := by
  have HC := Lib.hid (fun (h : l.length ≤ 120) => conS37_x l v S w hR (by omega))
  obtain ⟨a, cap, rfl⟩ := SlR.shape hR
  clear hR
  by_cases h1 : 20 < l.length ∧ l.length ≤ 100
  · have z1 : decide ((20 : Int) < (l.length : Int)) = true := decide_eq_true (by omega)
    have z2 : decide ((l.length : Int) ≤ 100) = true := decide_eq_true (by omega)
    have z1' : (20 : Int) < (l.length : Int) := by omega
    have z2' : (l.length : Int) ≤ 100 := by omega
    clear HC
    go_enter Tryz.func10, Tryz.ntmps10
    go_wp2_with fail
    go_ret
    exact ⟨longP_mk true (fun h => by cases h), Upd.refl _ _⟩
  · by_cases h2 : 120 < l.length
    · have z1 : decide ((20 : Int) < (l.length : Int)) = true := decide_eq_true (by omega)
      have z1' : (20 : Int) < (l.length : Int) := by omega
      have z2 : decide ((l.length : Int) ≤ 100) = false := decide_eq_false (by omega)
      have z2' : ¬ (l.length : Int) ≤ 100 := by omega
      have z3 : decide ((120 : Int) < (l.length : Int)) = true := decide_eq_true (by omega)
      have z3' : (120 : Int) < (l.length : Int) := by omega
      clear HC
      go_enter Tryz.func10, Tryz.ntmps10
      go_wp2_with fail
      go_ret
      exact ⟨longP_mk true (fun h => by cases h), Upd.refl _ _⟩
    · have h3 : l.length ≤ 120 := by omega
      have HC1 := Lib.hid (HC.out h3)
      have z3 : decide ((120 : Int) < (l.length : Int)) = false := decide_eq_false (by omega)
      have z3' : ¬ (120 : Int) < (l.length : Int) := by omega
      have H3 := Lib.hid h3
      clear HC
      by_cases h4 : 20 < l.length
      · have z1 : decide ((20 : Int) < (l.length : Int)) = true := decide_eq_true (by omega)
        have z1' : (20 : Int) < (l.length : Int) := by omega
        have z2 : decide ((l.length : Int) ≤ 100) = false := decide_eq_false (by omega)
        have z2' : ¬ (l.length : Int) ≤ 100 := by omega
        clear h1 h2 h3 h4
        go_enter Tryz.func10, Tryz.ntmps10
        go_wp2_with fail
        refine HC1.out.mono ?_
        rintro e w4 ⟨b, rfl, hw4⟩
        have H4 := Lib.hid hw4
        clear hw4 HC1
        go_wp2_with fail
        go_ret
        exact ⟨longP_mk _ (fun _ => H3.out), H4.out⟩
      · have z1 : decide ((20 : Int) < (l.length : Int)) = false := decide_eq_false (by omega)
        have z1' : ¬ (20 : Int) < (l.length : Int) := by omega
        clear h1 h2 h3 h4
        go_enter Tryz.func10, Tryz.ntmps10
        go_wp2_with fail
        refine HC1.out.mono ?_
        rintro e w4 ⟨b, rfl, hw4⟩
        have H4 := Lib.hid hw4
        clear hw4 HC1
        go_wp2_with fail
        go_ret
        exact ⟨longP_mk _ (fun _ => H3.out), H4.out⟩

end Go.Proofs.YtiimccogojkldaaGreatDoor

/- Parameters as they come in. -/
namespace Go.Proofs.YtiimccogojkldaaGreatDoor
open Go.RowKit Go.Hw Go
set_option linter.unusedVariables false
set_option linter.unusedSimpArgs false

open Go.ChangeShapes Go.WideShapes Go.Deep Go.Joins Go.ChangeAt Tm
set_option maxRecDepth 100000
theorem Tryz.own : ownKnob Tryz.prog.godebug = none := by kernel_rfl
theorem Tryz.laidOut : laidOutB Tryz.prog = true := by kernel_rfl
theorem cells25 : Tryz.prog.cellsOf 25 = 3 := by kernel_rfl
theorem cells9 : Tryz.prog.cellsOf 9 = 1 := by kernel_rfl
theorem cells3 : Tryz.prog.cellsOf 3 = 1 := by kernel_rfl
theorem cells23 : Tryz.prog.cellsOf 23 = 1 := by kernel_rfl
theorem cells38 : Tryz.prog.cellsOf 38 = 6 := by kernel_rfl

theorem add_plainO (b o k : Nat) : (⟨b, o, none⟩ : Addr).add k = ⟨b, o + k, none⟩ := by
  unfold Addr.add
  split
  · rename_i h; subst h; rfl
  · rfl
def intOf : Value → Int
  | .int _ n => n
  | _ => 0
theorem flat_one {α : Type} (f : α → Value) : ∀ l : List α, l.flatMap (fun s => [f s]) = l.map f
  | [] => rfl
  | a :: l => by rw [List.flatMap_cons, flat_one f l]; rfl
theorem flat_len {α : Type} (cells : α → List Value) {k : Nat} (hc : ∀ a, (cells a).length = k) : ∀ l : List α, (l.flatMap cells).length = l.length * k
  | [] => by simp
  | a :: l => by rw [List.flatMap_cons, List.length_append, hc, flat_len cells hc l, List.length_cons, Nat.add_mul, Nat.one_mul, Nat.add_comm]
theorem flat_get {α : Type} [Inhabited α] (cells : α → List Value) {k : Nat} (hc : ∀ a, (cells a).length = k) : ∀ (l : List α) (q r : Nat), q < l.length → r < k → (l.flatMap cells)[q * k + r]? = (cells (l.getD q default))[r]?
  | [], q, r, h, _ => by simp at h
  | a :: l, 0, r, _, hr => by
    rw [List.flatMap_cons, Nat.zero_mul, Nat.zero_add, List.getElem?_append_left (by rw [hc]; exact hr)]
    rfl
  | a :: l, q + 1, r, h, hr => by
    rw [List.flatMap_cons, List.getElem?_append_right (by rw [hc, Nat.add_mul]; omega), hc, show (q + 1) * k + r - k = q * k + r by rw [Nat.add_mul]; omega]
    rw [flat_get cells hc l q r (by simpa using h) hr]
    rfl
section
variable {H : Type} {enc : TypeId × Value → H} {W : World}
noncomputable abbrev trd (enc : TypeId × Value → H) (W : World) (held : Bool) (fuel : Nat) (t : TypeId) (cs : List Value) := DataW.trod enc Tryz.prog W 0 (fun _ => true) held fuel t cs
theorem open_sl {t e : TypeId} {k : Nat} {α : Type} [Inhabited α] (cells : α → List Value) (R : α → Prop) (ht : Tryz.prog.underlying t = some (.slice e)) (hk : Tryz.prog.cellsOf e = k) (hc : ∀ a, (cells a).length = k) (hk0 : 0 < k)
    {held : Bool} {fuel : Nat} {v : Value} {y : DataW H × List MemPlace} (hel : ∀ n cs y, n < fuel → trd enc W held n e cs = some y → ∃ a, cs = cells a ∧ R a) (h : trd enc W held fuel t [v] = some y) :
    ∃ l : List α, SlR (fun b => b < W.heap.size) W k v l.length (l.flatMap cells) ∧ l.length ≤ maxLen ∧ ∀ a ∈ l, R a := by
  rcases DataW.trod_slice ht h with ⟨hcs, _⟩ | ⟨a, len, cap, elems, rest, n, hfu, hcs, _, _, hl, hm, hlen, hall, _⟩
  · simp only [List.cons.injEq, and_true] at hcs
    subst hcs
    exact ⟨[], SlR.nil _ _ _, by simp, by simp⟩
  · simp only [List.cons.injEq, and_true] at hcs
    subst hcs
    rw [hk] at hall
    have hA : ∀ i, ∃ f : α, i < len → (∃ cs', W.cells? 0 (a.add (i * k)) k = some cs' ∧ cs' = cells f) ∧ R f := fun i => by
      by_cases hi : i < len
      · have h1 := hall i hi
        rw [List.getElem?_eq_getElem (by omega)] at h1
        obtain ⟨cs', h2, h3⟩ := Option.bind_eq_some_iff.1 h1
        obtain ⟨f, hf, hr⟩ := hel n cs' _ (by omega) h3
        exact ⟨f, fun _ => ⟨⟨cs', h2, hf⟩, hr⟩⟩
      · exact ⟨default, fun h => absurd h hi⟩
    obtain ⟨A, hA3⟩ := Classical.axiomOfChoice hA
    have hlenA : ((List.range len).map A).length = len := by simp
    have hx : ∀ i r, i < len → r < k → W.cell? ((a.add (i * k)).add r) = (cells (A i))[r]? := fun i r hi hr => by
      obtain ⟨⟨cs', h1, h2⟩, _⟩ := hA3 i hi
      rw [← h2]
      exact (World.cells?_some h1).2.2 r hr
    have hsm : 0 < len → ∃ u, W.cell? ((a.add (0 * k)).add 0) = some u := fun h0 => by
      rw [hx 0 0 h0 hk0]
      exact ⟨_, List.getElem?_eq_getElem (by rw [hc]; exact hk0)⟩
    have hsp : 0 < len → a.spot = none := fun h0 => by
      obtain ⟨u, hu⟩ := hsm h0
      have := World.cell?_spot hu
      simpa [Addr.add] using this
    have hbk : 0 < len → a.block < W.heap.size := fun h0 => by
      obtain ⟨u, hu⟩ := hsm h0
      have := World.block_lt_of_cell? W _ hu
      simpa [Addr.add] using this
    refine ⟨(List.range len).map A, ?_, by rw [hlenA]; omega, fun p hp => ?_⟩
    · rw [hlenA]
      refine ⟨by rw [flat_len cells hc, hlenA], .inr ⟨a, cap, rfl, hl, fun h0 => ⟨hsp h0, hbk h0⟩, fun j hj => ?_⟩⟩
      have hjq : j / k < len := Nat.div_lt_of_lt_mul (by rw [Nat.mul_comm]; exact hj)
      have hjr : j % k < k := Nat.mod_lt _ hk0
      have hje : j = j / k * k + j % k := by rw [Nat.mul_comm]; exact (Nat.div_add_mod j k).symm
      generalize j / k = q at hjq hje
      generalize j % k = r at hjr hje
      subst hje
      rw [flat_get cells hc _ q r (by rw [hlenA]; exact hjq) hjr]
      have e : ((List.range len).map A).getD q default = A q := by simp [hjq]
      rw [e, ← hx q r hjq hjr]
      have h4 := hsp (by omega)
      obtain ⟨ab, ao, asp⟩ := a
      simp only at h4
      subst h4
      rw [add_plainO, add_plainO, Nat.add_assoc]
    · simp only [List.mem_map, List.mem_range] at hp
      obtain ⟨i, hi, rfl⟩ := hp
      exact (hA3 i hi).2
/-- a term with the slice of its parts -/
abbrev Tu := Tm × Value
def tuCells (p : Tu) : List Value := [.string p.1.name, .string p.1.sort, p.2]
def TuOk (W : World) (p : Tu) : Prop := TlR (fun b => b < W.heap.size) W p.1.kids p.2
theorem tu_tCells : ∀ l : List Tu, l.flatMap tuCells = tCells (l.map (·.1)) (l.map (·.2))
  | [] => rfl
  | p :: l => by
    rw [List.flatMap_cons, tu_tCells l]
    rfl
theorem tu_list {l : List Tu} {v : Value} (h : SlR (fun b => b < W.heap.size) W 3 v l.length (l.flatMap tuCells)) (hR : ∀ p ∈ l, TuOk W p) : TlR (fun b => b < W.heap.size) W (l.map (·.1)) v := by
  rw [tu_tCells] at h
  refine .mk _ (l.map (·.2)) v (by simp) (by rw [List.length_map]; exact h) (fun i hi => ?_)
  rw [List.length_map] at hi
  have h1 := hR _ (List.getElem_mem hi)
  unfold TuOk at h1
  have e1 : tg (l.map (·.1)) i = (l[i]).1 := by unfold tg; simp [hi]
  have e2 : ug (l.map (·.2)) i = (l[i]).2 := by unfold ug; simp [hi]
  rw [e1, e2]
  exact h1
theorem term_of (fuel : Nat) : ∀ {held : Bool} (cs : List Value) (y : DataW H × List MemPlace), trd enc W held fuel 25 cs = some y → ∃ p : Tu, cs = tuCells p ∧ TuOk W p := by
  induction fuel using Nat.strongRecOn with
  | _ fuel ih =>
    intro held cs y h
    obtain ⟨xs, n, hfu, hx, hcl, hxl, hf⟩ := DataW.trod_struct Tryz.underlying25 h
    rw [cells25] at hcl
    match cs, hcl, xs, hxl with
    | [v0, v1, v2], _, [y0, y1, y2], _ =>
      have g0 := hf 0 _ rfl
      have g1 := hf 1 _ rfl
      have g2 := hf 2 _ rfl
      simp [cells9, cells23] at g0 g1 g2
      obtain ⟨s0, e0, _, _⟩ := DataW.trod_string Tryz.underlying9 g0
      obtain ⟨s1, e1, _, _⟩ := DataW.trod_string Tryz.underlying9 g1
      simp only [List.cons.injEq, and_true] at e0 e1
      subst e0; subst e1
      obtain ⟨l, hl, _, hR⟩ := open_sl (α := Tu) tuCells (TuOk W) Tryz.underlying23 cells25 (fun _ => rfl) (by decide) (fun n' cs' y' hn h' => ih n' (by omega) cs' y' h') g2
      exact ⟨((Tm.mk s0 s1 (l.map fun (x : Tu) => x.1), v2) : Tu), rfl, tu_list hl hR⟩
theorem open_term {v : Value} {d : DataW H} {ps : List MemPlace} (h : DataW.Trod enc Tryz.prog W 0 (fun _ => true) true 25 v d ps) (hv : ∃ a b c, v = .agg #[a, b, c] ∧ v.cells = #[a, b, c]) : ∃ t : Tm, TmR (fun b => b < W.heap.size) W t v := by
  obtain ⟨fuel, hf⟩ := h
  obtain ⟨a, b, c, rfl, hc⟩ := hv
  rw [hc] at hf
  obtain ⟨p, hp, hR⟩ := term_of fuel _ _ hf
  unfold tuCells at hp
  simp only [List.cons.injEq, and_true] at hp
  obtain ⟨rfl, rfl, rfl⟩ := hp
  exact ⟨p.1, TmR.of hR⟩
theorem open_terms {v : Value} {d : DataW H} {ps : List MemPlace} (h : DataW.Trod enc Tryz.prog W 0 (fun _ => true) true 23 v d ps) (hs : ∃ a len cap, v = .slice a len cap) : ∃ L : List Tm, TlR (fun b => b < W.heap.size) W L v ∧ L.length ≤ maxLen := by
  obtain ⟨fuel, hf⟩ := h
  obtain ⟨a, len, cap, rfl⟩ := hs
  obtain ⟨l, hl, hm, hR⟩ := open_sl (α := Tu) tuCells (TuOk W) Tryz.underlying23 cells25 (fun _ => rfl) (by decide) (fun n' cs' y' hn h' => term_of n' cs' y' h') hf
  exact ⟨l.map (·.1), tu_list hl hR, by rw [List.length_map]; exact hm⟩
theorem open_strs {v : Value} {d : DataW H} {ps : List MemPlace} (h : DataW.Trod enc Tryz.prog W 0 (fun _ => true) true 22 v d ps) (hs : ∃ a len cap, v = .slice a len cap) : ∃ l : List By, SlR (fun b => b < W.heap.size) W 1 v l.length (l.map Value.string) ∧ l.length ≤ maxLen := by
  obtain ⟨fuel, hf⟩ := h
  obtain ⟨a, len, cap, rfl⟩ := hs
  haveI : Inhabited By := ⟨nul⟩
  obtain ⟨l, hl, hm, hR⟩ := open_sl (α := By) (fun s => [.string s]) (fun _ => True) Tryz.underlying22 cells9 (fun _ => rfl) (by decide) (fun n' cs' y' hn h' => by
    obtain ⟨s0, e0, _, _⟩ := DataW.trod_string Tryz.underlying9 h'
    exact ⟨s0, e0, trivial⟩) hf
  refine ⟨l, ?_, hm⟩
  have e : l.flatMap (fun s => [Value.string s]) = l.map Value.string := flat_one _ l
  rw [← e]
  exact hl
theorem open_ints0 {v : Value} {d : DataW H} {ps : List MemPlace} (h : DataW.Trod enc Tryz.prog W 0 (fun _ => true) true 59 v d ps) (hs : ∃ a len cap, v = .slice a len cap) : ∃ l : List Int, SlR (fun b => b < W.heap.size) W 1 v l.length (l.map (Value.int .i64)) ∧ l.length ≤ maxLen ∧ ∀ x ∈ l, -9223372036854775808 ≤ x ∧ x ≤ 9223372036854775807 := by
  obtain ⟨fuel, hf⟩ := h
  obtain ⟨a, len, cap, rfl⟩ := hs
  obtain ⟨l, hl, hm, hR⟩ := open_sl (α := Int) (fun s => [.int .i64 s]) (fun x => -9223372036854775808 ≤ x ∧ x ≤ 9223372036854775807) Tryz.underlying59 cells3 (fun _ => rfl) (by decide) (fun n' cs' y' hn h' => by
    obtain ⟨s0, e0, _, w0⟩ := DataW.trod_int Tryz.underlying3 h'
    exact ⟨s0, e0, bounds_i64 w0⟩) hf
  refine ⟨l, ?_, hm, hR⟩
  have e : l.flatMap (fun s => [Value.int .i64 s]) = l.map (Value.int .i64) := flat_one _ l
  rw [← e]
  exact hl
/-- a rule with the slices of the parts of its sides -/
abbrev Ru := Tu × Tu
def ruCells (p : Ru) : List Value := tuCells p.1 ++ tuCells p.2
theorem rule_of (fuel : Nat) {held : Bool} (cs : List Value) (y : DataW H × List MemPlace) (h : trd enc W held fuel 38 cs = some y) : ∃ p : Ru, cs = ruCells p ∧ TuOk W p.1 ∧ TuOk W p.2 := by
  obtain ⟨xs, n, hfu, hx, hcl, hxl, hf⟩ := DataW.trod_struct Tryz.underlying38 h
  rw [cells38] at hcl
  match cs, hcl, xs, hxl with
  | [v0, v1, v2, v3, v4, v5], _, [y0, y1], _ =>
    have g0 := hf 0 _ rfl
    have g1 := hf 1 _ rfl
    simp [cells25] at g0 g1
    obtain ⟨p, hp, h1⟩ := term_of _ _ _ g0
    obtain ⟨q, hq, h2⟩ := term_of _ _ _ g1
    refine ⟨(p, q), ?_, h1, h2⟩
    unfold ruCells
    rw [← hp, ← hq]
    rfl
theorem open_rules {v : Value} {d : DataW H} {ps : List MemPlace} (h : DataW.Trod enc Tryz.prog W 0 (fun _ => true) true 35 v d ps) (hs : ∃ a len cap, v = .slice a len cap) : ∃ l : List Ru, SlR (fun b => b < W.heap.size) W 6 v l.length (l.flatMap ruCells) ∧ l.length ≤ maxLen ∧ ∀ p ∈ l, TuOk W p.1 ∧ TuOk W p.2 := by
  obtain ⟨fuel, hf⟩ := h
  obtain ⟨a, len, cap, rfl⟩ := hs
  exact open_sl (α := Ru) ruCells (fun p => TuOk W p.1 ∧ TuOk W p.2) Tryz.underlying35 cells38 (fun _ => rfl) (by decide) (fun n' cs' y' hn h' => rule_of n' cs' y' h') hf
end

end Go.Proofs.YtiimccogojkldaaGreatDoor

/- Rules as they come in. -/
namespace Go.Proofs.YtiimccogojkldaaGreatDoor
open Go.RowKit Go.Hw Go
set_option linter.unusedVariables false
set_option linter.unusedSimpArgs false

open Tm
def ruls (l : List Ru) : List Rl := l.map fun p => (p.1.1, p.2.1)
theorem ru_tCells : ∀ l : List Ru, l.flatMap ruCells = tCells (flR (ruls l)) (l.flatMap fun p => [p.1.2, p.2.2])
  | [] => rfl
  | p :: l => by
    rw [List.flatMap_cons, ru_tCells l]
    rfl
theorem ru_us : ∀ l : List Ru, (l.flatMap fun p => [p.1.2, p.2.2]).length = 2 * l.length
  | [] => rfl
  | p :: l => by
    rw [List.flatMap_cons, List.length_append, ru_us l, List.length_cons]
    simp
    omega
theorem ru_kids {W : World} : ∀ {l : List Ru}, (∀ p ∈ l, TuOk W p.1 ∧ TuOk W p.2) → ∀ i, i < 2 * l.length → TlR (fun b => b < W.heap.size) W (tg (flR (ruls l)) i).kids (ug (l.flatMap fun p => [p.1.2, p.2.2]) i)
  | [], _, i, h => absurd h (by simp)
  | p :: l, hR, 0, _ => (hR p (List.mem_cons_self ..)).1
  | p :: l, hR, 1, _ => (hR p (List.mem_cons_self ..)).2
  | p :: l, hR, i + 2, h => ru_kids (l := l) (fun q hq => hR q (List.mem_cons_of_mem _ hq)) i (by simp only [List.length_cons] at h; omega)
theorem rules_in {W : World} {l : List Ru} {v : Value} (h : SlR (fun b => b < W.heap.size) W 6 v l.length (l.flatMap ruCells)) (hR : ∀ p ∈ l, TuOk W p.1 ∧ TuOk W p.2) : RuR (fun b => b < W.heap.size) W (ruls l) v := by
  have hlen : (ruls l).length = l.length := by unfold ruls; simp
  have hfl := flR_len (ruls l)
  have hus := ru_us l
  have hk := ru_kids hR
  obtain ⟨hl, h⟩ := h
  rcases h with ⟨rfl, h0⟩ | ⟨ad, cap, rfl, hc, hS, hj⟩
  · have : l = [] := List.eq_nil_of_length_eq_zero h0
    subst this
    exact ⟨none, 0, rfl, TlR.nil _ _⟩
  · refine ⟨some ad, cap, by rw [hlen], .mk _ (l.flatMap fun p => [p.1.2, p.2.2]) _ (by rw [hus, hfl, hlen]) ?_ (fun i hi => hk i (by omega))⟩
    rw [hfl, hlen]
    refine ⟨by rw [tCells_len, hfl, hlen], .inr ⟨ad, 2 * cap, rfl, by omega, fun h => hS (by omega), fun j hjj => ?_⟩⟩
    rw [← ru_tCells]
    exact hj j (by omega)

end Go.Proofs.YtiimccogojkldaaGreatDoor
