/- The texts N26 N27 N28 N29 N30 N32 N33 N34, one behind the other. -/
import Derived.Test.YtlkcjmaiahnodaaGreatDoorYAM
import Derived.Test.YtlkcjmaiahnodaaGreatDoorYAC
import Derived.Test.YtlkcjmaiahnodaaGreatDoorYAF
import Derived.Test.YtlkcjmaiahnodaaGreatDoorYAD
import Derived.Test.YtlkcjmaiahnodaaGreatDoorYAE
/- Find and copied, of the reference. -/
namespace Go.Proofs.YtlkcjmaiahnodaaGreatDoor
open Go.RowKit Go.Hw Go
set_option linter.unusedVariables false
set_option linter.unusedSimpArgs false

open Tm Go.Sort Go.Proofs Go.ChangeMaps
end Go.Proofs.YtlkcjmaiahnodaaGreatDoor

/- Matched, of the reference. -/
namespace Go.Proofs.YtlkcjmaiahnodaaGreatDoor
open Go.RowKit Go.Hw Go
set_option linter.unusedVariables false
set_option linter.unusedSimpArgs false

open Tm Go.Sort Go.Proofs Go.ChangeMaps
def Ty24 (W : World) (k : Nat) : Prop := ∃ cs fz, W.heap[k]? = some (.cells cs 24 fz)
theorem TlO.ty {w : World} {B : Nat → Prop} {L : List Tm} {v : Value} (h : TlO 24 w B L v) : TlR (Ty24 w) w L v := by
  induction h with
  | mk B L us v Bk hl hown hb hkb hrow hdis hk ih =>
    refine .mk L us v hl ((SlR.of_own hown).weaken (fun k hk2 => ?_)) ih
    rcases hown.2 with ⟨e, _⟩ | ⟨g, cap, cur, e, _, h3, _⟩
    · rw [e] at hk2; cases hk2
    · rw [e] at hk2
      injection hk2 with hk2
      rw [← hk2]
      exact ⟨_, _, h3⟩
theorem Ty24.ext {W W' : World} {k : Nat} (h : Ty24 W k) (hE : Ext W W') : Ty24 W' k := by
  obtain ⟨cs, fz, h⟩ := h
  exact ⟨cs, fz, hE.heap h (fun h => h)⟩
end Go.Proofs.YtlkcjmaiahnodaaGreatDoor

/- Instance and Variant, of the reference. -/
namespace Go.Proofs.YtlkcjmaiahnodaaGreatDoor
open Go.RowKit Go.Hw Go
set_option linter.unusedVariables false
set_option linter.unusedSimpArgs false

open Tm Go.Sort Go.Proofs Go.ChangeMaps
end Go.Proofs.YtlkcjmaiahnodaaGreatDoor

/- few. -/
namespace Go.Proofs.YtlkcjmaiahnodaaGreatDoor
open Go.RowKit Go.Hw Go
set_option linter.unusedVariables false
set_option linter.unusedSimpArgs false

open Tm Go.Sort Go.Proofs Go.ChangeMaps
mutual
def fwT : Tm → Int → Bool × Int
  | .mk n s L, i => if i - 1 < 0 ∨ 60 < n.size ∨ 60 < s.size then (false, i - 1) else fwL L (i - 1)
def fwL : List Tm → Int → Bool × Int
  | [], i => (true, i)
  | x :: L, i => match fwT x i with
    | (true, j) => fwL L j
    | (false, j) => (false, j)
end
def FwP (q : Nat) (w w' : World) (j : Int) : Prop := Upd (fun k => k = q) w w' ∧ w'.heap[q]? = some (.cells #[.int .i64 j] 3 (0, 0))
set_option maxRecDepth 100000 in
set_option maxHeartbeats 2000000 in
theorem idxW_x (fid : Nat) (c : Value) (L : List Tm) (v : Value) (S : Nat → Prop) (q : Nat) (w : World) (i : Int) (heg : ∀ args W, (callFunc fid args).run Tryz.prog W = .ok (.enter fid args) W) (hT : TlR S w L v) (hq : ¬ S q) (hc : w.heap[q]? = some (.cells #[.int .i64 i] 3 (0, 0))) (h0 : 0 ≤ i) (h1 : i ≤ 1000)
    (hgt : ∀ x ∈ L, ∀ j, 0 ≤ j → (fwT x j).1 = true → 0 ≤ (fwT x j).2 ∧ (fwT x j).2 < j)
    (hcl : ∀ x ∈ L, ∀ vx W (j : Int), TmR S W x vx → W.heap[q]? = some (.cells #[.int .i64 j] 3 (0, 0)) → 0 ≤ j → j ≤ 1000 → Upd (fun k => k = q) w W → Calls Tryz.prog fid #[vx, c] W fun e W' => e = .returned (.bool !(fwT x j).1) ∧ FwP q W W' (fwT x j).2) :
    Calls Tryz.prog 132 #[v, .func (.func fid) #[] #[c]] w fun e w' => ∃ r : Int, e = .returned (.int .i64 r) ∧ decide (0 ≤ r) = !(fwL L i).1 ∧ FwP q w w' (fwL L i).2 := by
  obtain ⟨a, cap, rfl⟩ := hT.shape
  obtain ⟨V, hV⟩ : ∃ V, fwL L i = V := ⟨_, rfl⟩
  rw [hV]
  have HV := Lib.hid hV
  have HT := Lib.hid hT
  have HC := Lib.hid hc
  have HQ := Lib.hid hq
  have HCL := Lib.hid hcl
  have HGT := Lib.hid hgt
  clear hT hc hq hcl hgt hV
  go_enter Tryz.func132, Tryz.ntmps132
  go_wp2_with fail
  go_loopg [8] L.length (fun gk iv wr => ∃ (k : Nat) (j : Int), iv = .int .i64 (k : Int) ∧ gk = L.length - k ∧ k ≤ L.length ∧ 0 ≤ j ∧ (k : Int) + j ≤ i ∧ Hid (FwP q w wr j) ∧ Hid (fwL (L.drop k) j = V))
  case atStart => exact ⟨0, i, rfl, rfl, Nat.zero_le _, h0, by omega, Lib.hid ⟨Upd.refl _ _, HC.out⟩, HV⟩
  case round =>
    obtain ⟨k, j, rfl, rfl, hk, hj0, hj1, HF, HVK⟩ := hrel
    by_cases hlt : k < L.length
    · obtain ⟨g, off, hga, _, hat⟩ := (HT.out.kept HF.out.1 (fun k hk e => HQ.out (e ▸ hk))).at_ (by omega)
      subst hga
      obtain ⟨xa, xc, q0, q1, q2, hkid⟩ := hat k hlt
      rw [← Nat.add_assoc] at q1 q2
      have z0 : (0 : Int) ≤ (k : Int) := by omega
      have z1 : (k : Int) < (L.length : Int) := by omega
      have z2 : decide ((k : Int) < (L.length : Int)) = true := decide_eq_true z1
      have z2' : decide (k < L.length) = true := decide_eq_true hlt
      have HX := Lib.hid (HCL.out (tg L k) (tg_mem L k hlt) _ wr j ⟨xa, xc, rfl, hkid⟩ HF.out.2 hj0 (by omega) HF.out.1)
      have hvk := HVK.out
      rw [tg_drop L k hlt] at hvk
      unfold fwL at hvk
      have hg := HGT.out (tg L k) (tg_mem L k hlt) j hj0
      dsimp only [tV] at HX
      obtain ⟨x, hx⟩ : ∃ x, tg L k = x := ⟨_, rfl⟩
      rw [hx] at q0 q1 q2 HX hvk hg
      obtain ⟨P, hP⟩ : ∃ P, fwT x j = P := ⟨_, rfl⟩
      rw [hP] at HX hvk hg
      obtain ⟨b, j2⟩ := P
      simp only at HX hvk hg
      have HVN := Lib.hid hvk
      have HG := Lib.hid hg
      clear hat hkid hx hP hvk hg HVK
      have henter := fun args W => heg args W
      go_wp2_with fail
      refine HX.out.mono ?_
      rintro e w4 ⟨rfl, hw4, hq4⟩
      have HF4 : Hid (FwP q w w4 j2) := Lib.hid ⟨HF.out.1.trans hw4, hq4⟩
      clear hw4 hq4 HX q0 q1 q2
      cases b with
      | true =>
        have HV2 : Hid (fwL (L.drop (k + 1)) j2 = V) := Lib.hid HVN.out
        obtain ⟨g1, g2⟩ := HG.out rfl
        simp only [Bool.not_true]
        clear HVN HG
        go_wp2_with fail
        go_roundg (L.length - (k + 1))
        case measure => omega
        case rel => exact ⟨k + 1, j2, by go_num, rfl, by omega, g1, by omega, HF4, HV2⟩
      | false =>
        obtain rfl : V = (false, j2) := HVN.out.symm
        simp only [Bool.not_false]
        clear HVN HG
        go_wp2_with fail
        go_ret
        exact ⟨_, rfl, by first | exact decide_eq_true z0 | exact z0, HF4.out⟩
    · obtain rfl : k = L.length := by omega
      have z2 : decide ((L.length : Int) < (L.length : Int)) = false := decide_eq_false (by omega)
      have hvk := HVK.out
      rw [List.drop_length] at hvk
      unfold fwL at hvk
      subst hvk
      go_wp2_with fail
      go_ret
      exact ⟨_, rfl, by decide, HF.out⟩
set_option maxRecDepth 100000 in
set_option maxHeartbeats 2000000 in
theorem conW_x (fid : Nat) (c : Value) (L : List Tm) (v : Value) (S : Nat → Prop) (q : Nat) (w : World) (i : Int) (heg : ∀ args W, (callFunc fid args).run Tryz.prog W = .ok (.enter fid args) W) (hT : TlR S w L v) (hq : ¬ S q) (hc : w.heap[q]? = some (.cells #[.int .i64 i] 3 (0, 0))) (h0 : 0 ≤ i) (h1 : i ≤ 1000)
    (hgt : ∀ x ∈ L, ∀ j, 0 ≤ j → (fwT x j).1 = true → 0 ≤ (fwT x j).2 ∧ (fwT x j).2 < j)
    (hcl : ∀ x ∈ L, ∀ vx W (j : Int), TmR S W x vx → W.heap[q]? = some (.cells #[.int .i64 j] 3 (0, 0)) → 0 ≤ j → j ≤ 1000 → Upd (fun k => k = q) w W → Calls Tryz.prog fid #[vx, c] W fun e W' => e = .returned (.bool !(fwT x j).1) ∧ FwP q W W' (fwT x j).2) :
    Calls Tryz.prog 60 #[v, .func (.func fid) #[] #[c]] w fun e w' => e = .returned (.bool !(fwL L i).1) ∧ FwP q w w' (fwL L i).2 := by
  have H := Lib.hid (idxW_x fid c L v S q w i heg hT hq hc h0 h1 hgt hcl)
  obtain ⟨a, cap, rfl⟩ := hT.shape
  obtain ⟨V, hV⟩ : ∃ V, fwL L i = V := ⟨_, rfl⟩
  rw [hV] at H ⊢
  obtain ⟨b, hb⟩ : ∃ b, (!V.1) = b := ⟨_, rfl⟩
  rw [hb] at H ⊢
  clear hT hq hc hgt hcl heg hV hb
  go_enter Tryz.func60, Tryz.ntmps60
  go_wp2_with fail
  refine H.out.mono ?_
  rintro e w4 ⟨r, rfl, hr, hw4⟩
  have HW4 := Lib.hid hw4
  clear hw4 H
  go_wp2_with fail
  go_ret
  exact ⟨by first | exact hr | (rw [← hr]; rfl), HW4.out⟩
theorem fw_lt : ∀ (t : Tm) (i : Int), 0 ≤ i → (fwT t i).1 = true → 0 ≤ (fwT t i).2 ∧ (fwT t i).2 < i := by
  refine Tm.ind (fun n s L ih => ?_)
  intro i h0 h
  unfold fwT at h ⊢
  by_cases hc : i - 1 < 0 ∨ 60 < n.size ∨ 60 < s.size
  · rw [if_pos hc] at h; cases h
  rw [if_neg hc] at h ⊢
  have hl : ∀ (M : List Tm), (∀ x ∈ M, ∀ j : Int, 0 ≤ j → (fwT x j).1 = true → 0 ≤ (fwT x j).2 ∧ (fwT x j).2 < j) → ∀ j : Int, 0 ≤ j → (fwL M j).1 = true → 0 ≤ (fwL M j).2 ∧ (fwL M j).2 ≤ j := by
    intro M
    induction M with
    | nil => intro _ j hj _; unfold fwL; exact ⟨hj, Int.le_refl _⟩
    | cons x M ihM =>
      intro hx j hj h
      unfold fwL at h ⊢
      cases hp : fwT x j with
      | mk b j2 =>
        rw [hp] at h
        cases b with
        | false => cases h
        | true =>
          simp only at h ⊢
          have h1 := hx x (List.mem_cons_self ..) j hj (by rw [hp])
          rw [hp] at h1
          have h2 := ihM (fun y hy => hx y (List.mem_cons_of_mem _ hy)) j2 h1.1 h
          exact ⟨h2.1, by have := h1.2; have := h2.2; simp only at *; omega⟩
  have h2 := hl L (fun x hx j hj h => ih x hx j hj h) (i - 1) (by omega) h
  exact ⟨h2.1, by omega⟩
set_option maxRecDepth 100000 in
set_option maxHeartbeats 2000000 in
theorem cl133_x (x : Tm) (xa : Option Addr) (xc : Nat) (q cb : Nat) (W : World) (P : Bool) (j : Int) (hq : q < W.heap.size) (hcb : W.cell? ⟨cb, 0, none⟩ = some (.pointer (some ⟨q, 0, none⟩))) (hfew : ∀ W', Ext W W' → Calls Tryz.prog 62 #[tV x (.slice xa x.kids.length xc), .pointer (some ⟨q, 0, none⟩)] W' fun e W'' => e = .returned (.bool P) ∧ FwP q W' W'' j) :
    Calls Tryz.prog 133 #[tV x (.slice xa x.kids.length xc), .pointer (some ⟨cb, 0, none⟩)] W fun e W' => e = .returned (.bool !P) ∧ FwP q W W' j := by
  have HF := Lib.hid hfew
  have HE := Lib.hid ((Upd.refl (fun _ => False) W).alloc (.cells #[.string x.name, .string x.sort, .slice xa x.kids.length xc] 24))
  have hb := alloc0 W (.cells #[.string x.name, .string x.sort, .slice xa x.kids.length xc] 24)
  have x0 := cellRow hb 0 (.string x.name) rfl
  have x1 := cellRow hb 1 (.string x.sort) rfl
  have x2 := cellRow hb 2 (.slice xa x.kids.length xc) rfl
  have y0 := HE.out.cell hcb (fun h => h)
  dsimp only [tV] at HF ⊢
  clear hfew hb
  go_enter Tryz.func133, Tryz.ntmps133
  go_wp2_with fail
  refine (HF.out _ HE.out).mono ?_
  rintro e w4 ⟨rfl, hw4, hj⟩
  have HW4 : Hid (FwP q W w4 j) := Lib.hid ⟨(HE.out.mono (fun _ _ h => h.elim)).trans hw4, hj⟩
  clear hw4 hj HF x0 x1 x2
  go_wp2_with fail
  go_ret
  exact ⟨rfl, HW4.out⟩
set_option maxRecDepth 100000 in
set_option maxHeartbeats 2000000 in
theorem cl61_x (x : Tm) (xa : Option Addr) (xc : Nat) (q cb : Nat) (W : World) (P : Bool) (j : Int) (hq : q < W.heap.size)  (hfew : ∀ W', Ext W W' → Calls Tryz.prog 62 #[tV x (.slice xa x.kids.length xc), .pointer (some ⟨q, 0, none⟩)] W' fun e W'' => e = .returned (.bool P) ∧ FwP q W' W'' j) :
    Calls Tryz.prog 61 #[tV x (.slice xa x.kids.length xc), .pointer (some ⟨q, 0, none⟩)] W fun e W' => e = .returned (.bool !P) ∧ FwP q W W' j := by
  have HF := Lib.hid hfew
  have HE := Lib.hid ((Upd.refl (fun _ => False) W).alloc (.cells #[.string x.name, .string x.sort, .slice xa x.kids.length xc] 24))
  have hb := alloc0 W (.cells #[.string x.name, .string x.sort, .slice xa x.kids.length xc] 24)
  have x0 := cellRow hb 0 (.string x.name) rfl
  have x1 := cellRow hb 1 (.string x.sort) rfl
  have x2 := cellRow hb 2 (.slice xa x.kids.length xc) rfl
  skip
  dsimp only [tV] at HF ⊢
  clear hfew hb
  go_enter Tryz.func61, Tryz.ntmps61
  go_wp2_with fail
  refine (HF.out _ HE.out).mono ?_
  rintro e w4 ⟨rfl, hw4, hj⟩
  have HW4 : Hid (FwP q W w4 j) := Lib.hid ⟨(HE.out.mono (fun _ _ h => h.elim)).trans hw4, hj⟩
  clear hw4 hj HF x0 x1 x2
  go_wp2_with fail
  go_ret
  exact ⟨rfl, HW4.out⟩
set_option maxRecDepth 100000 in
set_option maxHeartbeats 2000000 in
theorem few_x : ∀ (t : Tm) (v : Value) (S : Nat → Prop) (q : Nat) (w : World) (i : Int), TmR S w t v → ¬ S q → (∀ k, S k → k < w.heap.size) → w.heap[q]? = some (.cells #[.int .i64 i] 3 (0, 0)) → 0 ≤ i → i ≤ 1000 →
    Calls Tryz.prog 62 #[v, .pointer (some ⟨q, 0, none⟩)] w fun e w' => e = .returned (.bool (fwT t i).1) ∧ FwP q w w' (fwT t i).2 := by
  refine Tm.ind (fun n s L ih => ?_)
  intro v S q w i hT hq hS hc h0 h1
  obtain ⟨a, cap, rfl, hT⟩ := hT
  dsimp only [tV, Tm.name, Tm.sort, Tm.kids] at hT ⊢
  obtain ⟨V, hV⟩ : ∃ V, fwT (.mk n s L) i = V := ⟨_, rfl⟩
  rw [hV]
  have HV := Lib.hid hV
  have HTL := Lib.hid hT
  have HIH := Lib.hid ih
  have HQ := Lib.hid hq
  have HSS := Lib.hid hS
  have hqs : q < w.heap.size := (Array.getElem?_eq_some_iff.1 hc).1
  have HQS := Lib.hid hqs
  have HE0 := Lib.hid (((Upd.refl (fun _ => False) w).alloc (.cells #[.string n, .string s, .slice a L.length cap] 24)).alloc (.cells #[.pointer (some ⟨q, 0, none⟩)] 96))
  have HB2 := Lib.hid (allocOld (alloc0 w (.cells #[.string n, .string s, .slice a L.length cap] 24)) (.cells #[.pointer (some ⟨q, 0, none⟩)] 96))
  have HB3 := Lib.hid (alloc_at (w.alloc (.cells #[.string n, .string s, .slice a L.length cap] 24)) (.cells #[.pointer (some ⟨q, 0, none⟩)] 96) (n := w.heap.size + 1) (by simp))
  have HC := Lib.hid (HE0.out.heap hc (fun h => h))
  have x0 := cellRow HB3.out 0 (.pointer (some ⟨q, 0, none⟩)) rfl
  have c0 := cellRow HC.out 0 (.int .i64 i) rfl
  have f0 := fun j => frozenRow HC.out j
  clear ih hT hq hS hc hV
  go_enter Tryz.func62, Tryz.ntmps62
  go_wp2_with fail
  generalize (w.alloc (.cells #[.string n, .string s, .slice a L.length cap] 24)).alloc (.cells #[.pointer (some ⟨q, 0, none⟩)] 96) = w1 at *
  go_region
  have hb4 := setBlock HC.out 0 (.int .i64 (i - 1))
  have hu4 := ((Upd.refl (fun k => k = q) w1).setCell (p := ⟨q, 0, none⟩) (.inl rfl) (.int .i64 (i - 1))).drew
  have HQ4 : Hid (((w1.setCell ⟨q, 0, none⟩ (.int .i64 (i - 1))).drew).heap[q]? = some (.cells #[.int .i64 (i - 1)] 3 (0, 0))) := Lib.hid (by
    have h : (w1.setCell ⟨q, 0, none⟩ (.int .i64 (i - 1))).heap[q]? = some (.cells #[.int .i64 (i - 1)] 3 (0, 0)) := by simpa using hb4
    exact h)
  have HU4 : Hid (Upd (fun k => k = q) w ((w1.setCell ⟨q, 0, none⟩ (.int .i64 (i - 1))).drew)) := Lib.hid ((HE0.out.mono (fun _ _ h => h.elim)).trans hu4)
  have HB24 := Lib.hid (hu4.heap HB2.out (by have := HQS.out; omega))
  have HB34 := Lib.hid (hu4.heap HB3.out (by have := HQS.out; omega))
  have HS4 := Lib.hid hu4.size
  generalize (w1.setCell ⟨q, 0, none⟩ (.int .i64 (i - 1))).drew = w4 at *
  clear hb4 hu4 x0 c0 f0 HC HB2 HB3
  have y0 := cellRow HB34.out 0 (.pointer (some ⟨q, 0, none⟩)) rfl
  have c0 := cellRow HQ4.out 0 (.int .i64 (i - 1)) rfl
  have b0 := cellRow HB24.out 0 (.string n) rfl
  have b1 := cellRow HB24.out 1 (.string s) rfl
  have b2 := cellRow HB24.out 2 (.slice a L.length cap) rfl
  by_cases e1 : i - 1 < 0
  · have t1 : decide (i - 1 < 0) = true := decide_eq_true e1
    obtain rfl : V = (false, i - 1) := by rw [← HV.out]; unfold fwT; rw [if_pos (.inl e1)]
    go_wp2_with fail
    go_ret
    exact ⟨rfl, HU4.out, HQ4.out⟩
  have t1 : decide (i - 1 < 0) = false := decide_eq_false e1
  by_cases e2 : 60 < n.size
  · have t2 : decide ((60 : Int) < (n.size : Int)) = true := decide_eq_true (by omega)
    obtain rfl : V = (false, i - 1) := by rw [← HV.out]; unfold fwT; rw [if_pos (.inr (.inl e2))]
    go_wp2_with fail
    go_ret
    exact ⟨rfl, HU4.out, HQ4.out⟩
  have t2 : decide ((60 : Int) < (n.size : Int)) = false := decide_eq_false (by omega)
  by_cases e3 : 60 < s.size
  · have t3 : decide ((60 : Int) < (s.size : Int)) = true := decide_eq_true (by omega)
    obtain rfl : V = (false, i - 1) := by rw [← HV.out]; unfold fwT; rw [if_pos (.inr (.inr e3))]
    go_wp2_with fail
    go_ret
    exact ⟨rfl, HU4.out, HQ4.out⟩
  have t3 : decide ((60 : Int) < (s.size : Int)) = false := decide_eq_false (by omega)
  have hVL : fwL L (i - 1) = V := by rw [← HV.out]; unfold fwT; rw [if_neg (by rintro (h | h | h) <;> omega)]
  have HCO := Lib.hid (conW_x 133 (.pointer (some ⟨w.heap.size + 1, 0, none⟩)) L (.slice a L.length cap) S q w4 (i - 1) (enters_of Tryz.func133 (by kernel_rfl) rfl) (HTL.out.kept HU4.out (fun k hk e => HQ.out (e ▸ hk))) HQ.out HQ4.out (by omega) (by omega) (fun x hx j hj h => fw_lt x j hj h)
    (fun x hx vx W j hvx hWq hj0 hj1 hWu => by
      obtain ⟨xa, xc, rfl, hkx⟩ := hvx
      have hSW : ∀ k, S k → k < W.heap.size := fun k hk => Nat.lt_of_lt_of_le (HSS.out k hk) (Nat.le_trans HU4.out.size hWu.size)
      have hqW := (Array.getElem?_eq_some_iff.1 hWq).1
      refine cl133_x x xa xc q (w.heap.size + 1) W _ _ hqW (cellRow (hWu.heap HB34.out (by have := HQS.out; omega)) 0 _ rfl) (fun W' hW' => HIH.out x hx _ S q W' j ⟨xa, xc, rfl, hkx.ext hW'⟩ HQ.out (fun k hk => Nat.lt_of_lt_of_le (hSW k hk) hW'.size) (hW'.heap hWq (fun h => h)) hj0 hj1)))
  rw [hVL] at HCO
  clear hVL e1 e2 e3
  go_wp2_with fail
  refine HCO.out.mono ?_
  rintro e w6 ⟨rfl, hw6, hq6⟩
  have HF6 : Hid (FwP q w w6 V.2) := Lib.hid ⟨HU4.out.trans hw6, hq6⟩
  obtain ⟨bb, hbb⟩ : ∃ b, V.1 = b := ⟨_, rfl⟩
  clear hw6 hq6 HCO y0 c0 b0 b1 b2
  cases bb
  all_goals
    rw [hbb]
    simp only [Bool.not_true, Bool.not_false]
    go_wp2_with fail
    go_ret
    exact ⟨by first | (rw [hbb]; rfl) | (simp [hbb]) | rfl, HF6.out⟩

end Go.Proofs.YtlkcjmaiahnodaaGreatDoor

/- fits. -/
namespace Go.Proofs.YtlkcjmaiahnodaaGreatDoor
open Go.RowKit Go.Hw Go
set_option linter.unusedVariables false
set_option linter.unusedSimpArgs false

open Tm Go.Sort Go.Proofs Go.ChangeMaps
theorem fw_size : ∀ (t : Tm) (i : Int), 0 ≤ i → (fwT t i).1 = true → (t.size : Int) + (fwT t i).2 ≤ i ∧ ∀ x ∈ sbts t, x.name.size ≤ 60 ∧ x.sort.size ≤ 60 := by
  refine Tm.ind (fun n s L ih => ?_)
  intro i h0 h
  unfold fwT at h ⊢
  by_cases hc : i - 1 < 0 ∨ 60 < n.size ∨ 60 < s.size
  · rw [if_pos hc] at h; cases h
  rw [if_neg hc] at h ⊢
  have hl : ∀ (M : List Tm), (∀ x ∈ M, ∀ j : Int, 0 ≤ j → (fwT x j).1 = true → (x.size : Int) + (fwT x j).2 ≤ j ∧ ∀ y ∈ sbts x, y.name.size ≤ 60 ∧ y.sort.size ≤ 60) → ∀ j : Int, 0 ≤ j → (fwL M j).1 = true → (sizes M : Int) + (fwL M j).2 ≤ j ∧ ∀ x ∈ M, ∀ y ∈ sbts x, y.name.size ≤ 60 ∧ y.sort.size ≤ 60 := by
    intro M
    induction M with
    | nil => intro _ j hj _; unfold fwL; exact ⟨by simp [sizes], fun x hx => by cases hx⟩
    | cons x M ihM =>
      intro hx j hj h
      unfold fwL at h ⊢
      cases hp : fwT x j with
      | mk b j2 =>
        rw [hp] at h
        cases b with
        | false => cases h
        | true =>
          simp only at h ⊢
          have h1 := hx x (List.mem_cons_self ..) j hj (by rw [hp])
          have h3 := fw_lt x j hj (by rw [hp])
          rw [hp] at h1 h3
          have h2 := ihM (fun y hy => hx y (List.mem_cons_of_mem _ hy)) j2 h3.1 h
          have hsz : sizes (x :: M) = x.size + sizes M := by rw [sizes]
          refine ⟨by rw [hsz]; have := h1.1; have := h2.1; simp only at *; omega, fun y hy => ?_⟩
          rcases List.mem_cons.1 hy with e | hy
          · rw [e]; exact h1.2
          · exact h2.2 y hy
  have h2 := hl L (fun x hx j hj h => ih x hx j hj h) (i - 1) (by omega) h
  refine ⟨by rw [size_eq]; have := h2.1; simp only [Tm.kids]; omega, fun x hx => ?_⟩
  rw [sbts_eq] at hx
  rcases List.mem_cons.1 hx with e | hx
  · rw [e]; exact ⟨Nat.le_of_not_lt (fun h => hc (.inr (.inl h))), Nat.le_of_not_lt (fun h => hc (.inr (.inr h)))⟩
  · obtain ⟨y, hy, h3⟩ := List.mem_flatMap.1 hx
    exact h2.2 y hy x h3
set_option maxRecDepth 100000 in
set_option maxHeartbeats 2000000 in
theorem fits_x (L : List Tm) (v : Value) (S : Nat → Prop) (w : World) (hT : TlR S w L v) (hS : ∀ k, S k → k < w.heap.size) :
    Calls Tryz.prog 14 #[v] w fun e w' => e = .returned (.bool (fwL L 60).1) ∧ Ext w w' := by
  have hE := (Upd.refl (fun _ => False) w).alloc (.cells #[.int .i64 60] 3)
  have hB := alloc0 w (.cells #[.int .i64 60] 3)
  have HE := Lib.hid hE
  have HCO := Lib.hid (conW_x 61 (.pointer (some ⟨w.heap.size, 0, none⟩)) L v S w.heap.size (w.alloc (.cells #[.int .i64 60] 3)) 60 (enters_of Tryz.func61 (by kernel_rfl) rfl) (hT.ext hE) (fun h => Nat.lt_irrefl _ (hS _ h)) hB (by decide) (by decide) (fun x hx j hj h => fw_lt x j hj h)
    (fun x hx vx W j hvx hWq hj0 hj1 hWu => by
      obtain ⟨xa, xc, rfl, hkx⟩ := hvx
      have hSW : ∀ k, S k → k < W.heap.size := fun k hk => Nat.lt_of_lt_of_le (hS k hk) (Nat.le_trans hE.size hWu.size)
      have hqW := (Array.getElem?_eq_some_iff.1 hWq).1
      refine cl61_x x xa xc w.heap.size 0 W _ _ hqW (fun W' hW' => few_x x _ S w.heap.size W' j ⟨xa, xc, rfl, hkx.ext hW'⟩ (fun h => Nat.lt_irrefl _ (hS _ h)) (fun k hk => Nat.lt_of_lt_of_le (hSW k hk) hW'.size) (hW'.heap hWq (fun h => h)) hj0 hj1)))
  obtain ⟨a, cap, rfl⟩ := hT.shape
  obtain ⟨V, hV⟩ : ∃ V, fwL L 60 = V := ⟨_, rfl⟩
  rw [hV] at HCO ⊢
  obtain ⟨bb, hbb⟩ : ∃ b, V.1 = b := ⟨_, rfl⟩
  rw [hbb] at HCO ⊢
  clear hT hS hE hB hV hbb
  go_enter Tryz.func14, Tryz.ntmps14
  go_wp2_with fail
  refine HCO.out.mono ?_
  rintro e w6 ⟨rfl, hw6, hq6⟩
  have HE6 : Hid (Ext w w6) := Lib.hid (HE.out.trans' hw6 (fun j hj e => by omega))
  clear hw6 hq6 HCO
  go_wp2_with fail
  go_ret
  exact ⟨by simp, HE6.out⟩

end Go.Proofs.YtlkcjmaiahnodaaGreatDoor

/- light. -/
namespace Go.Proofs.YtlkcjmaiahnodaaGreatDoor
open Go.RowKit Go.Hw Go
set_option linter.unusedVariables false
set_option linter.unusedSimpArgs false

open Tm Go.Sort Go.Proofs Go.ChangeMaps
def fwB : List Bd → Int → Bool × Int
  | [], i => (true, i)
  | x :: L, i => if 60 < x.1.size ∨ 60 < x.2.1.size then (false, i) else match fwT x.2.2 i with
    | (true, j) => fwB L j
    | (false, j) => (false, j)
def fwB1 (x : Bd) (i : Int) : Bool × Int := if 60 < x.1.size ∨ 60 < x.2.1.size then (false, i) else fwT x.2.2 i
theorem fwB_cons (x : Bd) (L : List Bd) (i : Int) : fwB (x :: L) i = match fwB1 x i with
    | (true, j) => fwB L j
    | (false, j) => (false, j) := by
  rw [fwB]
  unfold fwB1
  split <;> rfl
theorem fwB1_lt (x : Bd) (i : Int) (h0 : 0 ≤ i) (h : (fwB1 x i).1 = true) : 0 ≤ (fwB1 x i).2 ∧ (fwB1 x i).2 < i ∧ x.1.size ≤ 60 ∧ x.2.1.size ≤ 60 ∧ (fwB1 x i) = fwT x.2.2 i := by
  unfold fwB1 at h ⊢
  by_cases hc : 60 < x.1.size ∨ 60 < x.2.1.size
  · rw [if_pos hc] at h; cases h
  · rw [if_neg hc] at h ⊢
    have := fw_lt x.2.2 i h0 h
    exact ⟨this.1, this.2, by omega, by omega, rfl⟩
def sizB : List Bd → Nat
  | [] => 0
  | x :: L => x.2.2.size + sizB L
theorem fwB_spec : ∀ (L : List Bd) (i : Int), 0 ≤ i → (fwB L i).1 = true → (sizB L : Int) ≤ i ∧ ∀ b ∈ L, b.1.size ≤ 60 ∧ b.2.1.size ≤ 60 ∧ b.2.2.size ≤ sizB L ∧ ∀ x ∈ sbts b.2.2, x.name.size ≤ 60 ∧ x.sort.size ≤ 60
  | [], i, h0, _ => ⟨by simp [sizB, h0], fun b hb => by cases hb⟩
  | x :: L, i, h0, h => by
    rw [fwB_cons] at h
    cases hp : fwB1 x i with
    | mk b j =>
      rw [hp] at h
      cases b with
      | false => cases h
      | true =>
        simp only at h
        have h1 := fwB1_lt x i h0 (by rw [hp])
        have e1 := h1.2.2.2.2
        rw [hp] at h1 e1
        have h2 := fw_size x.2.2 i h0 (by rw [← e1])
        rw [← e1] at h2
        simp only at h1 h2
        have h3 := fwB_spec L j h1.1 h
        refine ⟨by unfold sizB; have := h3.1; have := h2.1; omega, fun y hy => ?_⟩
        rcases List.mem_cons.1 hy with e | hy
        · rw [e]; exact ⟨h1.2.2.1, h1.2.2.2.1, by unfold sizB; omega, h2.2⟩
        · have h4 := h3.2 y hy
          exact ⟨h4.1, h4.2.1, by unfold sizB; have := h4.2.2.1; omega, h4.2.2.2⟩
set_option maxRecDepth 100000 in
set_option maxHeartbeats 2000000 in
theorem cl87_x (x : Bd) (xa : Option Addr) (xc : Nat) (S : Nat → Prop) (q : Nat) (W : World) (j : Int) (hT : TlR S W x.2.2.kids (.slice xa x.2.2.kids.length xc)) (hqS : ¬ S q) (hS : ∀ k, S k → k < W.heap.size) (hq : W.heap[q]? = some (.cells #[.int .i64 j] 3 (0, 0))) (h0 : 0 ≤ j) (h1 : j ≤ 1000) :
    Calls Tryz.prog 87 #[(.agg #[.string x.1, .string x.2.1, .string x.2.2.name, .string x.2.2.sort, .slice xa x.2.2.kids.length xc]), .pointer (some ⟨q, 0, none⟩)] W fun e W' => e = .returned (.bool !(fwB1 x j).1) ∧ FwP q W W' (fwB1 x j).2 := by
  have hX := (Upd.refl (fun _ => False) W).alloc (.cells #[.string x.1, .string x.2.1, .string x.2.2.name, .string x.2.2.sort, .slice xa x.2.2.kids.length xc] 93)
  have hX1 := hX
  have HFW := Lib.hid (fun W' (hW : Ext (W.alloc (.cells #[.string x.1, .string x.2.1, .string x.2.2.name, .string x.2.2.sort, .slice xa x.2.2.kids.length xc] 93)) W') => few_x x.2.2 (tV x.2.2 (.slice xa x.2.2.kids.length xc)) S q W' j ⟨xa, xc, rfl, (hT.ext hX).ext hW⟩ hqS (fun k hk => Nat.lt_of_lt_of_le (hS k hk) (Nat.le_trans hX.size hW.size)) (hW.heap (hX.heap hq (fun h => h)) (fun h => h)) h0 h1)
  have HX := Lib.hid hX
  have hb := alloc0 W (.cells #[.string x.1, .string x.2.1, .string x.2.2.name, .string x.2.2.sort, .slice xa x.2.2.kids.length xc] 93)
  have HQ0 : Hid (FwP q W (W.alloc (.cells #[.string x.1, .string x.2.1, .string x.2.2.name, .string x.2.2.sort, .slice xa x.2.2.kids.length xc] 93)) j) := Lib.hid ⟨hX.mono (fun _ _ h => h.elim), hX.heap hq (fun h => h)⟩
  have x0 := cellRow hb 0 (.string x.1) rfl
  have x1 := cellRow hb 1 (.string x.2.1) rfl
  have x2 := cellRow hb 2 (.string x.2.2.name) rfl
  have x3 := cellRow hb 3 (.string x.2.2.sort) rfl
  have x4 := cellRow hb 4 (.slice xa x.2.2.kids.length xc) rfl
  obtain ⟨V, hV⟩ : ∃ V, fwB1 x j = V := ⟨_, rfl⟩
  rw [hV]
  have HV := Lib.hid hV
  dsimp only [tV] at HFW ⊢
  clear hT hqS hS hq hX hX1 hb hV
  go_enter Tryz.func87, Tryz.ntmps87
  by_cases c1 : 60 < x.1.size
  · have z1 : decide ((60 : Int) < (x.1.size : Int)) = true := decide_eq_true (by omega)
    have z2 : (60 : Int) < (x.1.size : Int) := by omega
    obtain rfl : V = (false, j) := by rw [← HV.out]; unfold fwB1; rw [if_pos (.inl c1)]
    clear c1
    go_wp2_with fail
    all_goals go_ret
    all_goals exact ⟨rfl, HQ0.out⟩
  have z1 : decide ((60 : Int) < (x.1.size : Int)) = false := decide_eq_false (by omega)
  have z2 : ¬ (60 : Int) < (x.1.size : Int) := by omega
  by_cases c2 : 60 < x.2.1.size
  · have z3 : decide ((60 : Int) < (x.2.1.size : Int)) = true := decide_eq_true (by omega)
    have z4 : (60 : Int) < (x.2.1.size : Int) := by omega
    obtain rfl : V = (false, j) := by rw [← HV.out]; unfold fwB1; rw [if_pos (.inr c2)]
    clear c1 c2
    go_wp2_with fail
    all_goals go_ret
    all_goals exact ⟨rfl, HQ0.out⟩
  have z3 : decide ((60 : Int) < (x.2.1.size : Int)) = false := decide_eq_false (by omega)
  have z4 : ¬ (60 : Int) < (x.2.1.size : Int) := by omega
  have hv : fwT x.2.2 j = V := by rw [← HV.out]; unfold fwB1; rw [if_neg (by omega)]
  rw [hv] at HFW
  obtain ⟨b, j2⟩ := V
  simp only at HFW ⊢
  clear c1 c2 hv HV
  go_wp2_with fail
  refine (HFW.out _ (Upd.refl _ _)).mono ?_
  rintro e w4 ⟨rfl, hw4⟩
  have HW4 : Hid (FwP q W w4 j2) := Lib.hid ⟨HQ0.out.1.trans hw4.1, hw4.2⟩
  clear hw4 HFW x0 x1 x2 x3 x4
  go_wp2_with fail
  go_ret
  exact ⟨rfl, HW4.out⟩
set_option maxRecDepth 100000 in
set_option maxHeartbeats 2000000 in
theorem idxL_x (L : List Bd) (v : Value) (R S : Nat → Prop) (q : Nat) (w : World) (i : Int) (hT : BnR R S w v L) (hq : ¬ S q) (hqR : ¬ R q) (hS : ∀ k, S k → k < w.heap.size) (hc : w.heap[q]? = some (.cells #[.int .i64 i] 3 (0, 0))) (h0 : 0 ≤ i) (h1 : i ≤ 1000) :
    Calls Tryz.prog 150 #[v, .func (.func 87) #[] #[.pointer (some ⟨q, 0, none⟩)]] w fun e w' => ∃ r : Int, e = .returned (.int .i64 r) ∧ decide (0 ≤ r) = !(fwB L i).1 ∧ FwP q w w' (fwB L i).2 := by
  obtain ⟨a, cap, rfl⟩ := hT.shape
  obtain ⟨V, hV⟩ : ∃ V, fwB L i = V := ⟨_, rfl⟩
  rw [hV]
  have HV := Lib.hid hV
  have HT := Lib.hid hT
  have HC := Lib.hid hc
  have HQ := Lib.hid (And.intro hq hqR)
  have HSS := Lib.hid hS
  clear hT hc hq hqR hV hS
  go_enter Tryz.func150, Tryz.ntmps150
  go_wp2_with fail
  go_loopg [8] L.length (fun gk iv wr => ∃ (k : Nat) (j : Int), iv = .int .i64 (k : Int) ∧ gk = L.length - k ∧ k ≤ L.length ∧ 0 ≤ j ∧ (k : Int) + j ≤ i ∧ Hid (FwP q w wr j) ∧ Hid (fwB (L.drop k) j = V))
  case atStart => exact ⟨0, i, rfl, rfl, Nat.zero_le _, h0, by omega, Lib.hid ⟨Upd.refl _ _, HC.out⟩, HV⟩
  case round =>
    obtain ⟨k, j, rfl, rfl, hk, hj0, hj1, HF, HVK⟩ := hrel
    by_cases hlt : k < L.length
    · obtain ⟨g, off, hga, _, hat⟩ := (HT.out.kept HF.out.1 (fun k hk e => HQ.out.2 (e ▸ hk)) (fun k hk e => HQ.out.1 (e ▸ hk))).at_ (by omega)
      subst hga
      obtain ⟨xa, xc, p0, p1, p2, p3, p4, hkid⟩ := hat k hlt
      have z0 : (0 : Int) ≤ (k : Int) := by omega
      have z1 : (k : Int) < (L.length : Int) := by omega
      have z2 : decide ((k : Int) < (L.length : Int)) = true := decide_eq_true z1
      have z2' : decide (k < L.length) = true := decide_eq_true hlt
      have HX := Lib.hid (cl87_x (Go.Hw.bg L k) xa xc S q wr j hkid HQ.out.1 (fun k hk => Nat.lt_of_lt_of_le (HSS.out k hk) HF.out.1.size) HF.out.2 hj0 (by omega))
      have hvk := HVK.out
      rw [bg_drop L k hlt, fwB_cons] at hvk
      have hg := fwB1_lt (Go.Hw.bg L k) j hj0
      obtain ⟨x, hx⟩ : ∃ x, Go.Hw.bg L k = x := ⟨_, rfl⟩
      rw [hx] at p0 p1 p2 p3 p4 HX hvk hg
      obtain ⟨P, hP⟩ : ∃ P, fwB1 x j = P := ⟨_, rfl⟩
      rw [hP] at HX hvk hg
      obtain ⟨b, j2⟩ := P
      simp only at HX hvk hg
      have HVN := Lib.hid hvk
      have HG := Lib.hid (fun h => (hg h).1)
      have HG2 := Lib.hid (fun h => (hg h).2.1)
      obtain ⟨xn, xs, xt⟩ := x
      simp only at p0 p1 p2 p3 p4 HX
      clear hat hkid hx hP hvk hg HVK
      go_wp2_with fail
      refine HX.out.mono ?_
      rintro e w4 ⟨rfl, hw4, hq4⟩
      have HF4 : Hid (FwP q w w4 j2) := Lib.hid ⟨HF.out.1.trans hw4, hq4⟩
      clear hw4 hq4 HX p0 p1 p2 p3 p4
      cases b with
      | true =>
        have HV2 : Hid (fwB (L.drop (k + 1)) j2 = V) := Lib.hid HVN.out
        have g1 := HG.out rfl
        have g2 := HG2.out rfl
        simp only [Bool.not_true]
        clear HVN HG HG2
        go_wp2_with fail
        go_roundg (L.length - (k + 1))
        case measure => omega
        case rel => exact ⟨k + 1, j2, by go_num, rfl, by omega, g1, by omega, HF4, HV2⟩
      | false =>
        obtain rfl : V = (false, j2) := HVN.out.symm
        simp only [Bool.not_false]
        clear HVN HG HG2
        go_wp2_with fail
        go_ret
        exact ⟨_, rfl, by first | exact decide_eq_true z0 | exact z0, HF4.out⟩
    · obtain rfl : k = L.length := by omega
      have z2 : decide ((L.length : Int) < (L.length : Int)) = false := decide_eq_false (by omega)
      have hvk := HVK.out
      rw [List.drop_length] at hvk
      unfold fwB at hvk
      subst hvk
      go_wp2_with fail
      go_ret
      exact ⟨_, rfl, by decide, HF.out⟩
set_option maxRecDepth 100000 in
set_option maxHeartbeats 2000000 in
theorem conL_x (L : List Bd) (v : Value) (R S : Nat → Prop) (q : Nat) (w : World) (i : Int) (hT : BnR R S w v L) (hq : ¬ S q) (hqR : ¬ R q) (hS : ∀ k, S k → k < w.heap.size) (hc : w.heap[q]? = some (.cells #[.int .i64 i] 3 (0, 0))) (h0 : 0 ≤ i) (h1 : i ≤ 1000) :
    Calls Tryz.prog 86 #[v, .func (.func 87) #[] #[.pointer (some ⟨q, 0, none⟩)]] w fun e w' => e = .returned (.bool !(fwB L i).1) ∧ FwP q w w' (fwB L i).2 := by
  have H := Lib.hid (idxL_x L v R S q w i hT hq hqR hS hc h0 h1)
  obtain ⟨a, cap, rfl⟩ := hT.shape
  obtain ⟨V, hV⟩ : ∃ V, fwB L i = V := ⟨_, rfl⟩
  rw [hV] at H ⊢
  obtain ⟨b, hb⟩ : ∃ b, (!V.1) = b := ⟨_, rfl⟩
  rw [hb] at H ⊢
  clear hT hq hqR hS hc hV hb
  go_enter Tryz.func86, Tryz.ntmps86
  go_wp2_with fail
  refine H.out.mono ?_
  rintro e w4 ⟨r, rfl, hr, hw4⟩
  have HW4 := Lib.hid hw4
  clear hw4 H
  go_wp2_with fail
  go_ret
  exact ⟨by first | exact hr | (rw [← hr]; rfl), HW4.out⟩
set_option maxRecDepth 100000 in
set_option maxHeartbeats 2000000 in
theorem light_x (L : List Bd) (v : Value) (w : World) (hT : BnR (fun k => k < w.heap.size) (fun k => k < w.heap.size) w v L) (hlen : L.length ≤ 9223372036854775807) :
    Calls Tryz.prog 28 #[v] w fun e w' => e = .returned (.bool (decide (L.length ≤ 12) && (fwB L 60).1)) ∧ Ext w w' := by
  have hE := (Upd.refl (fun _ => False) w).alloc (.cells #[.int .i64 60] 3)
  have HE := Lib.hid hE
  have HCO := Lib.hid (conL_x L v _ _ w.heap.size (w.alloc (.cells #[.int .i64 60] 3)) 60 (hT.ext hE) (Nat.lt_irrefl _) (Nat.lt_irrefl _) (fun k hk => Nat.lt_of_lt_of_le hk hE.size) (alloc0 w (.cells #[.int .i64 60] 3)) (by decide) (by decide))
  obtain ⟨a, cap, rfl⟩ := hT.shape
  obtain ⟨V, hV⟩ : ∃ V, fwB L 60 = V := ⟨_, rfl⟩
  rw [hV] at HCO ⊢
  obtain ⟨bb, hbb⟩ : ∃ b, V.1 = b := ⟨_, rfl⟩
  rw [hbb] at HCO ⊢
  obtain ⟨B2, hB2⟩ : ∃ b, (decide (L.length ≤ 12) && bb) = b := ⟨_, rfl⟩
  rw [hB2]
  have HB2 := Lib.hid hB2
  clear hT hE hV hbb hB2
  go_enter Tryz.func28, Tryz.ntmps28
  by_cases hl : L.length ≤ 12
  rotate_left
  · have z1 : decide ((L.length : Int) ≤ 12) = false := decide_eq_false (by omega)
    have z2 : ¬ (L.length : Int) ≤ 12 := by omega
    obtain rfl : B2 = false := by rw [← HB2.out, decide_eq_false hl]; rfl
    clear hl
    go_wp2_with fail
    all_goals go_ret
    all_goals exact ⟨rfl, HE.out⟩
  have z1 : decide ((L.length : Int) ≤ 12) = true := decide_eq_true (by omega)
  have z2 : (L.length : Int) ≤ 12 := by omega
  obtain rfl : B2 = bb := by rw [← HB2.out, decide_eq_true hl]; rfl
  clear hl
  go_wp2_with fail
  refine HCO.out.mono ?_
  rintro e w6 ⟨rfl, hw6, hq6⟩
  have HE6 : Hid (Ext w w6) := Lib.hid (HE.out.trans' hw6 (fun j hj e => by omega))
  clear hw6 hq6 HCO
  go_wp2_with fail
  go_ret
  exact ⟨by simp, HE6.out⟩

end Go.Proofs.YtlkcjmaiahnodaaGreatDoor

/- order, BinarySearchFunc over bindings. -/
namespace Go.Proofs.YtlkcjmaiahnodaaGreatDoor
open Go.RowKit Go.Hw Go
set_option linter.unusedVariables false
set_option linter.unusedSimpArgs false

open Tm Go.Sort Go.Proofs Go.ChangeMaps
def lowK (B : List Bd) (n : By) : Nat := B.findIdx fun b => !blt b.1 n
theorem bg_get {B : List Bd} {t : Nat} (h : t < B.length) : Go.Hw.bg B t = B[t] := by unfold Go.Hw.bg; rw [List.getD_eq_getElem?_getD, List.getElem?_eq_getElem h]; rfl
theorem lowK_le (B : List Bd) (n : By) : lowK B n ≤ B.length := List.findIdx_le_length
theorem lowK_lt {B : List Bd} {n : By} (h : AscK (Prod.fst : Bd → By) B) : (∀ t, t < lowK B n → blt (Go.Hw.bg B t).1 n = true) ∧ (∀ t, lowK B n ≤ t → t < B.length → blt (Go.Hw.bg B t).1 n = false) := by
  have hle := lowK_le B n
  refine ⟨fun t ht => ?_, fun t ht htl => ?_⟩
  · rw [bg_get (by omega)]
    have := List.not_of_lt_findIdx (show t < lowK B n from ht)
    simpa using this
  · rw [bg_get htl]
    have h0 : lowK B n < B.length := by omega
    have h1 : (!blt B[lowK B n].1 n) = true := List.findIdx_getElem (p := fun x : Bd => !blt x.1 n) (w := h0)
    have h2 : blt B[lowK B n].1 n = false := by simpa using h1
    rcases Nat.eq_or_lt_of_le ht with e | e
    · have : B[t] = B[lowK B n] := by congr 1; omega
      rw [this]; exact h2
    · rw [Bool.eq_false_iff]
      intro h3
      have := blt_trans (List.pairwise_iff_getElem.1 h (lowK B n) t h0 htl e) h3
      rw [h2] at this; cases this
theorem lowK_mem {B : List Bd} {n : By} (h : AscK (Prod.fst : Bd → By) B) : (lowK B n < B.length ∧ (Go.Hw.bg B (lowK B n)).1 = n) ↔ (bget B n).isSome = true := by
  constructor
  · rintro ⟨h1, h2⟩
    rw [bg_get h1] at h2
    have := (bget_of (asc_dist h) (List.getElem_mem h1)).1
    rw [h2] at this
    rw [this]; rfl
  · intro hs
    obtain ⟨T, hT⟩ := Option.isSome_iff_exists.1 hs
    obtain ⟨b, hb, h1, _⟩ := bget_some hT
    obtain ⟨p, hp, rfl⟩ := List.mem_iff_getElem.1 hb
    have h2 := lowK_lt (n := n) h
    have h3 : lowK B n = p := by
      rcases Nat.lt_trichotomy (lowK B n) p with e | e | e
      · have h4 := h2.2 _ (Nat.le_refl _) (by omega)
        rw [bg_get (by omega)] at h4
        have := List.pairwise_iff_getElem.1 h _ p (by omega) hp e
        rw [h1] at this
        rw [this] at h4
        cases h4
      · exact e
      · have h4 := h2.1 p e
        rw [bg_get hp, h1, blt_irrefl] at h4
        cases h4
    rw [h3]
    exact ⟨hp, by rw [bg_get hp]; exact h1⟩
theorem lowK_some {B : List Bd} {n : By} (h : AscK (Prod.fst : Bd → By) B) (hs : (bget B n).isSome = true) : lowK B n < B.length ∧ bget B n = some (Go.Hw.bg B (lowK B n)).2.2 ∧ bsrt B n = some (Go.Hw.bg B (lowK B n)).2.1 := by
  obtain ⟨h1, h2⟩ := (lowK_mem h).2 hs
  have := bget_of (asc_dist h) (List.getElem_mem h1)
  rw [← bg_get h1, h2] at this
  exact ⟨h1, this.1, this.2⟩
theorem bcmp_neg (a b : By) : (bcmp a b < 0) ↔ blt a b = true := by
  unfold bcmp
  by_cases h : blt a b = true
  · rw [if_pos h]; simp [h]
  · rw [if_neg h]
    split <;> simp [h]
set_option maxRecDepth 100000 in
set_option maxHeartbeats 2000000 in
theorem ord95_x (x : Bd) (xa : Option Addr) (xc : Nat) (nm : By) (w : World) : Calls Tryz.prog 95 #[(.agg #[.string x.1, .string x.2.1, .string x.2.2.name, .string x.2.2.sort, .slice xa x.2.2.kids.length xc]), .string nm] w fun e w' => e = .returned (.int .i64 (bcmp x.1 nm)) ∧ Ext w w' := by
  have HE := Lib.hid ((Upd.refl (fun _ => False) w).alloc (.cells #[.string x.1, .string x.2.1, .string x.2.2.name, .string x.2.2.sort, .slice xa x.2.2.kids.length xc] 93))
  have hb := alloc0 w (.cells #[.string x.1, .string x.2.1, .string x.2.2.name, .string x.2.2.sort, .slice xa x.2.2.kids.length xc] 93)
  have c0 := cellRow hb 0 (.string x.1) rfl
  have hc : ∀ W, Calls Tryz.prog 99 #[.string x.1, .string nm] W fun e w' => e = .returned (.int .i64 (bcmp x.1 nm)) ∧ w' = W := fun W => by rw [← cmpS_eq]; exact Tryz.strings_Compare x.1 nm W
  have HC := Lib.hid hc
  obtain ⟨r, hr⟩ : ∃ r, bcmp x.1 nm = r := ⟨_, rfl⟩
  rw [hr] at HC ⊢
  clear hb hc hr
  go_enter Tryz.func95, Tryz.ntmps95
  go_wp2_with fail
  refine (HC.out _).mono ?_
  rintro e w4 ⟨rfl, rfl⟩
  go_wp2_with fail
  go_ret
  exact ⟨rfl, HE.out⟩
set_option maxRecDepth 100000 in
set_option maxHeartbeats 2000000 in
theorem bsB_x (B : List Bd) (v : Value) (nm : By) (R S : Nat → Prop) (w : World) (h : BnR R S w v B) (ha : AscK (Prod.fst : Bd → By) B) (hl : B.length ≤ 1000000) : Calls Tryz.prog 94 #[v, .string nm, .func (.func 95) #[] #[]] w fun e w' => e = .returned (.tuple #[.int .i64 (lowK B nm : Nat), .bool (bget B nm).isSome]) ∧ Ext w w' := by
  have H := Lib.hid h
  obtain ⟨a, c, rfl⟩ := h.shape
  obtain ⟨X, hX⟩ : ∃ X, lowK B nm = X := ⟨_, rfl⟩
  obtain ⟨Y, hY⟩ : ∃ Y, (bget B nm).isSome = Y := ⟨_, rfl⟩
  have hlow := lowK_lt (n := nm) ha
  have hmem := lowK_mem (n := nm) ha
  have hle := lowK_le B nm
  rw [hX] at hlow hmem hle
  rw [hY] at hmem
  rw [hX, hY]
  have HL := Lib.hid hlow
  have HM := Lib.hid hmem
  have HLE := Lib.hid hle
  have heg : ∀ args W, (callFunc 95 args).run Tryz.prog W = .ok (.enter 95 args) W := enters_of Tryz.func95 (by kernel_rfl) rfl
  clear h ha hX hY hlow hmem hle
  go_enter Tryz.func94, Tryz.ntmps94
  go_wp2_with fail
  go_loopg [9, 10] B.length (fun gk s9 s10 wr => ∃ lo hi : Nat, s9 = .int .i64 (lo : Int) ∧ s10 = .int .i64 (hi : Int) ∧ lo ≤ hi ∧ hi ≤ B.length ∧ hi - lo ≤ gk ∧ Hid (lo ≤ X ∧ X ≤ hi) ∧ Hid (Ext w wr))
  case atStart => exact ⟨0, B.length, rfl, rfl, Nat.zero_le _, Nat.le_refl _, by omega, Lib.hid ⟨Nat.zero_le _, HLE.out⟩, Lib.hid (Upd.refl _ _)⟩
  case round =>
    obtain ⟨lo, hi, rfl, rfl, hlh, hin, hg, HI, HE⟩ := hrel
    by_cases hlt : lo < hi
    · obtain ⟨m, hm⟩ : ∃ m : Nat, (lo + hi) / 2 = m := ⟨_, rfl⟩
      have hml : lo ≤ m ∧ m < hi := by omega
      obtain ⟨g, off, hga, _, hat⟩ := (H.out.ext HE.out).at_ (by omega)
      subst hga
      obtain ⟨xa, xc, p0, p1, p2, p3, p4, hkid⟩ := hat m (by omega)
      have z0 : (0 : Int) ≤ (m : Int) := by omega
      have z1 : (m : Int) < (B.length : Int) := by omega
      have z3 : ((lo : Int) + (hi : Int)) / 2 = (m : Int) := by omega
      have z2 : decide ((lo : Int) < (hi : Int)) = true := decide_eq_true (by omega)
      have z2' : decide (lo < hi) = true := decide_eq_true hlt
      have HO := Lib.hid (fun W => ord95_x (Go.Hw.bg B m) xa xc nm W)
      have hx1 : blt (Go.Hw.bg B m).1 nm = true → m < X := fun e => by
        rcases Nat.lt_or_ge m X with e2 | e2
        · exact e2
        · rw [HL.out.2 m e2 (by omega)] at e; cases e
      have hx2 : blt (Go.Hw.bg B m).1 nm = false → X ≤ m := fun e => by
        rcases Nat.lt_or_ge m X with e2 | e2
        · rw [HL.out.1 m e2] at e; cases e
        · exact e2
      have hbn := bcmp_neg (Go.Hw.bg B m).1 nm
      obtain ⟨x, hx⟩ : ∃ x, Go.Hw.bg B m = x := ⟨_, rfl⟩
      rw [hx] at p0 p1 p2 p3 p4 HO hx1 hx2 hbn
      obtain ⟨r, hr⟩ : ∃ r, bcmp x.1 nm = r := ⟨_, rfl⟩
      rw [hr] at HO hbn
      have HM2 := Lib.hid hm
      have HML := Lib.hid hml
      by_cases hr0 : r < 0
      · have HX1 := Lib.hid (hx1 (hbn.1 hr0))
        have z4 : decide (r < 0) = true := decide_eq_true hr0
        clear hx1 hx2 hbn hr hx hat hkid hm hml
        go_wp2_with fail
        refine (HO.out _).mono ?_
        rintro e w4 ⟨rfl, hw4⟩
        have HE4 := Lib.hid (HE.out.trans hw4)
        clear hw4 HO p0 p1 p2 p3 p4
        go_wp2_with fail
        go_roundg (hi - (m + 1))
        case measure => have := HML.out; omega
        case rel => exact ⟨m + 1, hi, by go_num, rfl, by have := HML.out; omega, hin, Nat.le_refl _, Lib.hid ⟨HX1.out, HI.out.2⟩, HE4⟩
      · have HX2 := Lib.hid (hx2 (by
          cases hb : blt x.1 nm with
          | true => exact absurd (hbn.2 hb) hr0
          | false => rfl))
        have z4 : decide (r < 0) = false := decide_eq_false hr0
        clear hx1 hx2 hbn hr hx hat hkid hm hml
        go_wp2_with fail
        refine (HO.out _).mono ?_
        rintro e w4 ⟨rfl, hw4⟩
        have HE4 := Lib.hid (HE.out.trans hw4)
        clear hw4 HO p0 p1 p2 p3 p4
        go_wp2_with fail
        go_roundg (m - lo)
        case measure => have := HML.out; omega
        case rel => exact ⟨lo, m, rfl, rfl, by have := HML.out; omega, by have := HML.out; omega, Nat.le_refl _, Lib.hid ⟨HI.out.1, HX2.out⟩, HE4⟩
    · obtain rfl : hi = lo := by omega
      obtain rfl : hi = X := by have := HI.out; omega
      have z2 : decide ((hi : Int) < (hi : Int)) = false := decide_eq_false (by omega)
      by_cases hlt2 : hi < B.length
      · obtain ⟨g, off, hga, _, hat⟩ := (H.out.ext HE.out).at_ (by omega)
        subst hga
        obtain ⟨xa, xc, p0, p1, p2, p3, p4, hkid⟩ := hat hi hlt2
        have z0 : (0 : Int) ≤ (hi : Int) := by omega
        have z1 : (hi : Int) < (B.length : Int) := by omega
        have z5 : decide ((hi : Int) < (B.length : Int)) = true := decide_eq_true z1
        have z5' : decide (hi < B.length) = true := decide_eq_true hlt2
        have HO := Lib.hid (fun W => ord95_x (Go.Hw.bg B hi) xa xc nm W)
        have hy : decide (bcmp (Go.Hw.bg B hi).1 nm = 0) = Y := by
          rw [Bool.eq_iff_iff, decide_eq_true_eq, bcmp_zero, ← HM.out]
          exact ⟨fun e => ⟨hlt2, e⟩, fun e => e.2⟩
        obtain ⟨x, hx⟩ : ∃ x, Go.Hw.bg B hi = x := ⟨_, rfl⟩
        rw [hx] at p0 p1 p2 p3 p4 HO hy
        obtain ⟨r, hr⟩ : ∃ r, bcmp x.1 nm = r := ⟨_, rfl⟩
        rw [hr] at HO hy
        have hy2 : (r == 0) = Y := by rw [← hy]; rfl
        have HY := Lib.hid hy
        clear hr hx hat hkid hy hlt2
        go_wp2_with fail
        refine (HO.out _).mono ?_
        rintro e w4 ⟨rfl, hw4⟩
        have HE4 := Lib.hid (HE.out.trans hw4)
        clear hw4 HO p0 p1 p2 p3 p4
        go_wp2_with fail
        go_ret2
        exact ⟨by first | rfl | (rw [HY.out]), HE4.out⟩
      · have z5 : decide ((hi : Int) < (B.length : Int)) = false := decide_eq_false (by omega)
        have z5' : decide (hi < B.length) = false := decide_eq_false hlt2
        obtain rfl : Y = false := by
          rw [Bool.eq_false_iff]
          intro e
          exact hlt2 (HM.out.2 e).1
        clear hlt2
        go_wp2_with fail
        go_ret2
        exact ⟨rfl, HE.out⟩

end Go.Proofs.YtlkcjmaiahnodaaGreatDoor

/- Valid, of unify. -/
namespace Go.Proofs.YtlkcjmaiahnodaaGreatDoor
open Go.RowKit Go.Hw Go
set_option linter.unusedVariables false
set_option linter.unusedSimpArgs false

open Tm Go.Sort Go.Proofs Go.ChangeMaps
theorem okBd_eq (nm : By → Bool) (B : List Bd) (k : Nat) : okBd nm B k = (nm (Go.Hw.bg B k).1 && nm (Go.Hw.bg B k).2.1 && (decide (k = 0) || blt (Go.Hw.bg B (k - 1)).1 (Go.Hw.bg B k).1) && wf nm (Go.Hw.bg B k).2.2 && (decide ((Go.Hw.bg B k).2.2.sort = nul) || (decide ((Go.Hw.bg B k).2.2.sort = (Go.Hw.bg B k).2.1) && !decide ((Go.Hw.bg B k).2.2.name = (Go.Hw.bg B k).1)))) := rfl
theorem vldB_no {nm : By → Bool} {B : List Bd} {k : Nat} (hk : k < B.length) (h : okBd nm B k = false) : vldB nm B = false := by
  cases hv : vldB nm B with
  | false => rfl
  | true => rw [(okBd_at hv).2 k hk] at h; cases h
theorem vldB_yes {nm : By → Bool} {B : List Bd} (hl : B.length ≤ 1000) (h : ∀ j, j < B.length → okBd nm B j = true) : vldB nm B = true := by
  unfold vldB
  rw [Bool.and_eq_true, decide_eq_true_eq, List.all_eq_true]
  exact ⟨hl, fun i hi => h i (List.mem_range.1 hi)⟩
theorem binOp_geq_own (a b : By) : binOp .geq 9 (.string a) (.string b) = pure (.bool !(blt a b)) := by
  rw [← bless]; simp [binOp, Op.stringOp]
set_option maxRecDepth 100000 in
set_option maxHeartbeats 2000000 in
theorem valid_x (B : List Bd) (v : Value) (w : World) (htab : AscT w) (hT : BnR (fun k => k < w.heap.size) (fun k => k < w.heap.size) w v B) (hl : B.length ≤ 1000000) (hs : ∀ b ∈ B, (b.2.2.size : Int) ≤ 1000000000000) : Calls Tryz.prog 31 #[v] w fun e w' => e = .returned (.bool (vldB nmB B)) ∧ Ext w w' := by
  have HT := Lib.hid hT
  have HTAB := Lib.hid htab
  have HSZ := Lib.hid hs
  obtain ⟨a, cap, rfl⟩ := hT.shape
  obtain ⟨V, hV⟩ : ∃ V, vldB nmB B = V := ⟨_, rfl⟩
  have HVV := Lib.hid hV.symm
  rw [hV]
  clear hT htab hs hV
  by_cases hb : 1000 < B.length
  · have HV : Hid (V = false) := Lib.hid (by rw [HVV.out]; unfold vldB; rw [decide_eq_false (by omega)]; rfl)
    have z1 : (1000 : Int) < (B.length : Int) := by omega
    have z1' : decide ((1000 : Int) < (B.length : Int)) = true := decide_eq_true z1
    have H8 : Hid (Ext w w) := Lib.hid (Upd.refl _ _)
    clear hb
    go_enter Tryz.func31, Tryz.ntmps31
    go_wp2_with fail
    all_goals go_ret
    all_goals (rw [HV.out]; exact ⟨rfl, H8.out⟩)
  have z1 : ¬ (1000 : Int) < (B.length : Int) := by omega
  have z1' : decide ((1000 : Int) < (B.length : Int)) = false := decide_eq_false z1
  go_enter Tryz.func31, Tryz.ntmps31
  go_wp2_with fail
  clear z1 z1'
  go_loopg [10] B.length (fun gk iv wr => ∃ k : Nat, iv = .int .i64 (k : Int) ∧ gk = B.length - k ∧ k ≤ B.length ∧ Hid (∀ j, j < k → okBd nmB B j = true) ∧ Hid (Ext w wr))
  case atStart => exact ⟨0, rfl, rfl, Nat.zero_le _, Lib.hid (fun j h => absurd h (Nat.not_lt_zero _)), Lib.hid (Upd.refl _ _)⟩
  case round =>
    obtain ⟨k, rfl, rfl, hk, HC, HE⟩ := hrel
    by_cases hlt : k < B.length
    · obtain ⟨g, off, hga, _, hat⟩ := (HT.out.ext HE.out).at_ (by omega)
      subst hga
      obtain ⟨xa, xc, p0, p1, p2, p3, p4, hkid⟩ := hat k hlt
      have z0 : (0 : Int) ≤ (k : Int) := by omega
      have z1 : (k : Int) < (B.length : Int) := by omega
      have z2 : decide ((k : Int) < (B.length : Int)) = true := decide_eq_true z1
      have z2' : decide (k < B.length) = true := decide_eq_true hlt
      have hno : okBd nmB B k = false → V = false := fun h => by rw [HVV.out]; exact vldB_no hlt h
      have hyes : okBd nmB B k = true → ∀ j, j < k + 1 → okBd nmB B j = true := fun h j hj => by
        rcases Nat.lt_succ_iff_lt_or_eq.1 hj with h5 | h5
        · exact HC.out j h5
        · rw [h5]; exact h
      have HNO := Lib.hid hno
      have HYES := Lib.hid hyes
      have hok := okBd_eq nmB B k
      have hszx : ((Go.Hw.bg B k).2.2.size : Int) ≤ 1000000000000 := HSZ.out _ (bg_mem hlt)
      have hprev : 0 < k → ∃ y, (Go.Hw.bg B (k - 1)).1 = y ∧ wr.cell? ⟨g, off + (k - 1) * 5, none⟩ = some (.string y) := fun h0 => by
        obtain ⟨_, _, q0, _⟩ := hat (k - 1) (by omega)
        exact ⟨_, rfl, q0⟩
      have HPREV := Lib.hid hprev
      obtain ⟨x, hx⟩ : ∃ x, Go.Hw.bg B k = x := ⟨_, rfl⟩
      rw [hx] at p0 p1 p2 p3 p4 hkid hok hszx
      have hE4 := (Upd.refl (fun _ => False) wr).alloc (.cells #[.string x.1, .string x.2.1, .string x.2.2.name, .string x.2.2.sort, .slice xa x.2.2.kids.length xc] 93)
      have HX4 := Lib.hid hE4
      have hB4 := alloc0 wr (.cells #[.string x.1, .string x.2.1, .string x.2.2.name, .string x.2.2.sort, .slice xa x.2.2.kids.length xc] 93)
      have HB4 := Lib.hid hB4
      have HE4 := Lib.hid (HE.out.trans hE4)
      have HN1 := Lib.hid (fun W (hW : Ext (wr.alloc (.cells #[.string x.1, .string x.2.1, .string x.2.2.name, .string x.2.2.sort, .slice xa x.2.2.kids.length xc] 93)) W) => isName_x x.1 W (asc_ext HTAB.out (HE4.out.trans hW)))
      have HN2 := Lib.hid (fun W (hW : Ext (wr.alloc (.cells #[.string x.1, .string x.2.1, .string x.2.2.name, .string x.2.2.sort, .slice xa x.2.2.kids.length xc] 93)) W) => isName_x x.2.1 W (asc_ext HTAB.out (HE4.out.trans hW)))
      have HFO := Lib.hid (fun W (hW : Ext (wr.alloc (.cells #[.string x.1, .string x.2.1, .string x.2.2.name, .string x.2.2.sort, .slice xa x.2.2.kids.length xc] 93)) W) => uform_x x.2.2 (tV x.2.2 (.slice xa x.2.2.kids.length xc)) W (asc_ext HTAB.out (HE4.out.trans hW)) (TmR.weaken ⟨xa, xc, rfl, ((hkid.ext hE4).ext hW)⟩ (fun j hj => Nat.lt_of_lt_of_le hj (HE4.out.trans hW).size)) hszx)
      dsimp only [tV] at HFO
      have HOKE := Lib.hid hok
      clear hkid hno hyes hok hszx hprev hE4 hat
      go_wp2_with fail
      generalize hw4 : wr.alloc (.cells #[.string x.1, .string x.2.1, .string x.2.2.name, .string x.2.2.sort, .slice xa x.2.2.kids.length xc] 93) = w4 at *
      have p0 := cellRow hB4 0 (.string x.1) rfl
      have p1 := cellRow hB4 1 (.string x.2.1) rfl
      have p2 := cellRow hB4 2 (.string x.2.2.name) rfl
      have p3 := cellRow hB4 3 (.string x.2.2.sort) rfl
      have p4 := cellRow hB4 4 (.slice xa x.2.2.kids.length xc) rfl
      have xp0 := fun x : XW w4 => x.ext.cell p0 (fun h => h)
      have xp1 := fun x : XW w4 => x.ext.cell p1 (fun h => h)
      have xp2 := fun x : XW w4 => x.ext.cell p2 (fun h => h)
      have xp3 := fun x : XW w4 => x.ext.cell p3 (fun h => h)
      have xp4 := fun x : XW w4 => x.ext.cell p4 (fun h => h)
      have hrfs := Upd.refl (fun _ => False) w4
      clear p0 p1 p2 p3 p4 hB4
      obtain ⟨n1, hn1⟩ : ∃ b, nmB x.1 = b := ⟨_, rfl⟩
      obtain ⟨n2, hn2⟩ : ∃ b, nmB x.2.1 = b := ⟨_, rfl⟩
      rw [hn1] at HN1 HOKE
      rw [hn2] at HN2 HOKE
      clear hn1 hn2
      cases n1
      · have HV := Lib.hid (HNO.out (by rw [HOKE.out]; simp))
        go_wp2_with fail
        refine wp_region_ext w4 (by assumption) (by kernel_rfl) (by kernel_rfl) ?_
        repeat (first | go_big_quiet_skip | (go_big_quiet_want; go_big_quiet_op; first | go_big_quiet_on | (apply Exists.intro; refine ⟨fun x => ?_, ?_⟩; (first | (go_at_call 79; with_reducible exact XW.call (HN1.out x.val x.ext)) | (go_at_call 79; with_reducible exact XW.call (HN2.out x.val x.ext)) | (go_at_call 78; exact XW.call (HFO.out x.val x.ext))); go_big_quiet_on)))
        refine wpQuiet_nil ?_
        rintro w8 ⟨⟨_, hyw8⟩, rfl⟩
        try dsimp only
        have H8 := Lib.hid (HE4.out.trans hyw8)
        go_wp2_with fail
        all_goals go_ret
        all_goals (rw [HV.out]; exact ⟨rfl, H8.out⟩)
      cases n2
      · have HV := Lib.hid (HNO.out (by rw [HOKE.out]; simp))
        go_wp2_with fail
        refine wp_region_ext w4 (by assumption) (by kernel_rfl) (by kernel_rfl) ?_
        repeat (first | go_big_quiet_skip | (go_big_quiet_want; go_big_quiet_op; first | go_big_quiet_on | (apply Exists.intro; refine ⟨fun x => ?_, ?_⟩; (first | (go_at_call 79; with_reducible exact XW.call (HN1.out x.val x.ext)) | (go_at_call 79; with_reducible exact XW.call (HN2.out x.val x.ext)) | (go_at_call 78; exact XW.call (HFO.out x.val x.ext))); go_big_quiet_on)))
        refine wpQuiet_nil ?_
        rintro w8 ⟨⟨_, hyw8⟩, rfl⟩
        try dsimp only
        have H8 := Lib.hid (HE4.out.trans hyw8)
        go_wp2_with fail
        all_goals go_ret
        all_goals (rw [HV.out]; exact ⟨rfl, H8.out⟩)
      by_cases h0 : k = 0
      · subst h0
        have HOKF : Hid (okBd nmB B 0 = (true && true && true && wf nmB x.2.2 && (decide (x.2.2.sort = nul) || (decide (x.2.2.sort = x.2.1) && !decide (x.2.2.name = x.1))))) := Lib.hid (by rw [HOKE.out]; simp)
        clear HOKE
        obtain ⟨f, hf⟩ : ∃ f, wf nmB x.2.2 = f := ⟨_, rfl⟩
        rw [hf] at HFO HOKF
        clear hf
        cases f
        · have HV := Lib.hid (HNO.out (by rw [HOKF.out]; simp))
          go_wp2_with fail
          refine wp_region_ext w4 (by assumption) (by kernel_rfl) (by kernel_rfl) ?_
          repeat (first | go_big_quiet_skip | (go_big_quiet_want; go_big_quiet_op; first | go_big_quiet_on | (apply Exists.intro; refine ⟨fun x => ?_, ?_⟩; (first | (go_at_call 79; with_reducible exact XW.call (HN1.out x.val x.ext)) | (go_at_call 79; with_reducible exact XW.call (HN2.out x.val x.ext)) | (go_at_call 78; exact XW.call (HFO.out x.val x.ext))); go_big_quiet_on)))
          refine wpQuiet_nil ?_
          rintro w8 ⟨⟨_, hyw8⟩, rfl⟩
          try dsimp only
          have H8 := Lib.hid (HE4.out.trans hyw8)
          go_wp2_with fail
          all_goals go_ret
          all_goals (rw [HV.out]; exact ⟨rfl, H8.out⟩)
        go_wp2_with fail
        refine wp_region_ext w4 (by assumption) (by kernel_rfl) (by kernel_rfl) ?_
        repeat (first | go_big_quiet_skip | (go_big_quiet_want; go_big_quiet_op; first | go_big_quiet_on | (apply Exists.intro; refine ⟨fun x => ?_, ?_⟩; (first | (go_at_call 79; with_reducible exact XW.call (HN1.out x.val x.ext)) | (go_at_call 79; with_reducible exact XW.call (HN2.out x.val x.ext)) | (go_at_call 78; exact XW.call (HFO.out x.val x.ext))); go_big_quiet_on)))
        refine wpQuiet_nil ?_
        rintro w8 ⟨⟨_, hyw8⟩, rfl⟩
        try dsimp only
        have H8 := Lib.hid (HE4.out.trans hyw8)
        have HB8 := Lib.hid (hyw8.heap HB4.out (fun h => h))
        clear HFO HN1 HN2 HB4 HE4
        clear xp0 xp1 xp2 xp3 xp4
        have u0 := cellRow HB8.out 0 (.string x.1) rfl
        have u1 := cellRow HB8.out 1 (.string x.2.1) rfl
        have u2 := cellRow HB8.out 2 (.string x.2.2.name) rfl
        have u3 := cellRow HB8.out 3 (.string x.2.2.sort) rfl
        have u4 := cellRow HB8.out 4 (.slice xa x.2.2.kids.length xc) rfl
        have HVA := Lib.hid (fun W => variable_x x.2.2.name x.2.2.sort xa x.2.2.kids.length xc W)
        have s1 := str_dc x.2.2.sort x.2.1
        have s2 := str_dc x.2.2.name x.1
        obtain ⟨d0, hd0⟩ : ∃ d, decide (x.2.2.sort = nul) = d := ⟨_, rfl⟩
        obtain ⟨d1, hd1⟩ : ∃ d, decide (x.2.2.sort = x.2.1) = d := ⟨_, rfl⟩
        obtain ⟨d2, hd2⟩ : ∃ d, decide (x.2.2.name = x.1) = d := ⟨_, rfl⟩
        rw [hd0] at HVA HOKF
        rw [hd1] at s1 HOKF
        rw [hd2] at s2 HOKF
        clear hd0 hd1 hd2
        go_wp2_with fail
        refine (HVA.out _).mono ?_
        rintro e w9 ⟨rfl, hw9⟩
        have H9 := Lib.hid (H8.out.trans hw9)
        have HB9 := Lib.hid (hw9.heap HB8.out (fun h => h))
        clear hw9 HVA u0 u1 u2 u3 u4
        have u0 := cellRow HB9.out 0 (.string x.1) rfl
        have u1 := cellRow HB9.out 1 (.string x.2.1) rfl
        have u2 := cellRow HB9.out 2 (.string x.2.2.name) rfl
        have u3 := cellRow HB9.out 3 (.string x.2.2.sort) rfl
        have u4 := cellRow HB9.out 4 (.slice xa x.2.2.kids.length xc) rfl
        cases d0
        rotate_left
        · have HNX := Lib.hid (HYES.out (by rw [HOKF.out]; simp))
          go_wp2_with fail
          go_roundg (B.length - (0 + 1))
          case measure => omega
          case rel => exact ⟨0 + 1, by go_num, rfl, by omega, HNX, H9⟩
        cases d1
        · have HV := Lib.hid (HNO.out (by rw [HOKF.out]; simp))
          have H8 := H9
          go_wp2_with fail
          all_goals go_ret
          all_goals (rw [HV.out]; exact ⟨rfl, H8.out⟩)
        cases d2
        · have HNX := Lib.hid (HYES.out (by rw [HOKF.out]; simp))
          go_wp2_with fail
          go_roundg (B.length - (0 + 1))
          case measure => omega
          case rel => exact ⟨0 + 1, by go_num, rfl, by omega, HNX, H9⟩
        have HV := Lib.hid (HNO.out (by rw [HOKF.out]; simp))
        have H8 := H9
        go_wp2_with fail
        all_goals go_ret
        all_goals (rw [HV.out]; exact ⟨rfl, H8.out⟩)
      · have zk : (0 : Int) < (k : Int) := by omega
        have zk' : decide ((0 : Int) < (k : Int)) = true := decide_eq_true zk
        have zk2 : (0 : Int) ≤ (k : Int) - 1 := by omega
        have zk3 : (k : Int) - 1 < (B.length : Int) := by omega
        obtain ⟨m, rfl⟩ : ∃ m, k = m + 1 := ⟨k - 1, by omega⟩
        obtain ⟨y, hy, hyc⟩ := HPREV.out (by omega)
        rw [Nat.add_sub_cancel] at hyc hy
        have zk4 : ((m + 1 : Nat) : Int) - 1 = (m : Int) := by omega
        have y0 := fun X : XW w4 => X.ext.cell (HX4.out.cell hyc (fun h => h)) (fun h => h)
        have hgq := binOp_geq_own y x.1
        have HOKF : Hid (okBd nmB B (m + 1) = (true && true && blt y x.1 && wf nmB x.2.2 && (decide (x.2.2.sort = nul) || (decide (x.2.2.sort = x.2.1) && !decide (x.2.2.name = x.1))))) := Lib.hid (by rw [HOKE.out, ← hy]; simp)
        clear HOKE
        obtain ⟨g1, hg1⟩ : ∃ b, blt y x.1 = b := ⟨_, rfl⟩
        rw [hg1] at hgq HOKF
        clear hg1 hy hyc h0
        cases g1
        · have HV := Lib.hid (HNO.out (by rw [HOKF.out]; simp))
          go_wp2_with fail
          refine wp_region_ext w4 (by assumption) (by kernel_rfl) (by kernel_rfl) ?_
          repeat (first | go_big_quiet_skip | (go_big_quiet_want; go_big_quiet_op; first | go_big_quiet_on | (apply Exists.intro; refine ⟨fun x => ?_, ?_⟩; (first | (go_at_call 79; with_reducible exact XW.call (HN1.out x.val x.ext)) | (go_at_call 79; with_reducible exact XW.call (HN2.out x.val x.ext)) | (go_at_call 78; exact XW.call (HFO.out x.val x.ext))); go_big_quiet_on)))
          refine wpQuiet_nil ?_
          rintro w8 ⟨⟨_, hyw8⟩, rfl⟩
          try dsimp only
          have H8 := Lib.hid (HE4.out.trans hyw8)
          go_wp2_with fail
          all_goals go_ret
          all_goals (rw [HV.out]; exact ⟨rfl, H8.out⟩)
        obtain ⟨f, hf⟩ : ∃ f, wf nmB x.2.2 = f := ⟨_, rfl⟩
        rw [hf] at HFO HOKF
        clear hf
        cases f
        · have HV := Lib.hid (HNO.out (by rw [HOKF.out]; simp))
          go_wp2_with fail
          refine wp_region_ext w4 (by assumption) (by kernel_rfl) (by kernel_rfl) ?_
          repeat (first | go_big_quiet_skip | (go_big_quiet_want; go_big_quiet_op; first | go_big_quiet_on | (apply Exists.intro; refine ⟨fun x => ?_, ?_⟩; (first | (go_at_call 79; with_reducible exact XW.call (HN1.out x.val x.ext)) | (go_at_call 79; with_reducible exact XW.call (HN2.out x.val x.ext)) | (go_at_call 78; exact XW.call (HFO.out x.val x.ext))); go_big_quiet_on)))
          refine wpQuiet_nil ?_
          rintro w8 ⟨⟨_, hyw8⟩, rfl⟩
          try dsimp only
          have H8 := Lib.hid (HE4.out.trans hyw8)
          go_wp2_with fail
          all_goals go_ret
          all_goals (rw [HV.out]; exact ⟨rfl, H8.out⟩)
        go_wp2_with fail
        refine wp_region_ext w4 (by assumption) (by kernel_rfl) (by kernel_rfl) ?_
        repeat (first | go_big_quiet_skip | (go_big_quiet_want; go_big_quiet_op; first | go_big_quiet_on | (apply Exists.intro; refine ⟨fun x => ?_, ?_⟩; (first | (go_at_call 79; with_reducible exact XW.call (HN1.out x.val x.ext)) | (go_at_call 79; with_reducible exact XW.call (HN2.out x.val x.ext)) | (go_at_call 78; exact XW.call (HFO.out x.val x.ext))); go_big_quiet_on)))
        refine wpQuiet_nil ?_
        rintro w8 ⟨⟨_, hyw8⟩, rfl⟩
        try dsimp only
        have H8 := Lib.hid (HE4.out.trans hyw8)
        have HB8 := Lib.hid (hyw8.heap HB4.out (fun h => h))
        clear HFO HN1 HN2 HB4 HE4
        clear y0 hgq
        clear xp0 xp1 xp2 xp3 xp4
        have u0 := cellRow HB8.out 0 (.string x.1) rfl
        have u1 := cellRow HB8.out 1 (.string x.2.1) rfl
        have u2 := cellRow HB8.out 2 (.string x.2.2.name) rfl
        have u3 := cellRow HB8.out 3 (.string x.2.2.sort) rfl
        have u4 := cellRow HB8.out 4 (.slice xa x.2.2.kids.length xc) rfl
        have HVA := Lib.hid (fun W => variable_x x.2.2.name x.2.2.sort xa x.2.2.kids.length xc W)
        have s1 := str_dc x.2.2.sort x.2.1
        have s2 := str_dc x.2.2.name x.1
        obtain ⟨d0, hd0⟩ : ∃ d, decide (x.2.2.sort = nul) = d := ⟨_, rfl⟩
        obtain ⟨d1, hd1⟩ : ∃ d, decide (x.2.2.sort = x.2.1) = d := ⟨_, rfl⟩
        obtain ⟨d2, hd2⟩ : ∃ d, decide (x.2.2.name = x.1) = d := ⟨_, rfl⟩
        rw [hd0] at HVA HOKF
        rw [hd1] at s1 HOKF
        rw [hd2] at s2 HOKF
        clear hd0 hd1 hd2
        go_wp2_with fail
        refine (HVA.out _).mono ?_
        rintro e w9 ⟨rfl, hw9⟩
        have H9 := Lib.hid (H8.out.trans hw9)
        have HB9 := Lib.hid (hw9.heap HB8.out (fun h => h))
        clear hw9 HVA u0 u1 u2 u3 u4
        have u0 := cellRow HB9.out 0 (.string x.1) rfl
        have u1 := cellRow HB9.out 1 (.string x.2.1) rfl
        have u2 := cellRow HB9.out 2 (.string x.2.2.name) rfl
        have u3 := cellRow HB9.out 3 (.string x.2.2.sort) rfl
        have u4 := cellRow HB9.out 4 (.slice xa x.2.2.kids.length xc) rfl
        cases d0
        rotate_left
        · have HNX := Lib.hid (HYES.out (by rw [HOKF.out]; simp))
          go_wp2_with fail
          go_roundg (B.length - ((m + 1) + 1))
          case measure => omega
          case rel => exact ⟨(m + 1) + 1, by go_num, rfl, by omega, HNX, H9⟩
        cases d1
        · have HV := Lib.hid (HNO.out (by rw [HOKF.out]; simp))
          have H8 := H9
          go_wp2_with fail
          all_goals go_ret
          all_goals (rw [HV.out]; exact ⟨rfl, H8.out⟩)
        cases d2
        · have HNX := Lib.hid (HYES.out (by rw [HOKF.out]; simp))
          go_wp2_with fail
          go_roundg (B.length - ((m + 1) + 1))
          case measure => omega
          case rel => exact ⟨(m + 1) + 1, by go_num, rfl, by omega, HNX, H9⟩
        have HV := Lib.hid (HNO.out (by rw [HOKF.out]; simp))
        have H8 := H9
        go_wp2_with fail
        all_goals go_ret
        all_goals (rw [HV.out]; exact ⟨rfl, H8.out⟩)
    · obtain rfl : k = B.length := by omega
      have z2 : decide ((B.length : Int) < (B.length : Int)) = false := decide_eq_false (by omega)
      have HV : Hid (V = true) := Lib.hid (by rw [HVV.out]; exact vldB_yes (by omega) HC.out)
      have H8 := HE
      go_wp2_with fail
      all_goals go_ret
      all_goals (rw [HV.out]; exact ⟨rfl, H8.out⟩)

end Go.Proofs.YtlkcjmaiahnodaaGreatDoor
