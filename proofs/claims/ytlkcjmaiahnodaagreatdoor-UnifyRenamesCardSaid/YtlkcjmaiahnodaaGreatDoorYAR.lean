/- The texts N29 N30 N31, one behind the other. -/
import Derived.Test.YtlkcjmaiahnodaaGreatDoorYAQ
import Derived.Test.YtlkcjmaiahnodaaGreatDoorYAP
import Derived.Test.YtlkcjmaiahnodaaGreatDoorYAK
import Derived.Deep.DeepCutAuto
/- few. -/
namespace Go.Proofs.YtlkcjmaiahnodaaGreatDoor
open Go.RowKit Go.Hw Go
set_option linter.unusedVariables false
set_option linter.unusedSimpArgs false

open Tm Go.Sort Go.Proofs Go.ChangeMaps
mutual
def fwT : Tm → Int → Bool × Int
  | .mk n s L, i => if i - 1 < 0 ∨ 60 < n.size ∨ 60 < s.size then (false, i - 1) else fwL L (i - 1)
def fwL : List Tm → Int → Bool × Int
  | [], i => (true, i)
  | x :: L, i => match fwT x i with
    | (true, j) => fwL L j
    | (false, j) => (false, j)
end
/-- what a call of few, or of a function of it, leaves -/
def FwP (q : Nat) (w w' : World) (j : Int) : Prop := Upd (fun k => k = q) w w' ∧ w'.heap[q]? = some (.cells #[.int .i64 j] 3 (0, 0))
set_option maxRecDepth 100000 in
set_option maxHeartbeats 2000000 in
theorem idxW_x (fid : Nat) (c : Value) (L : List Tm) (v : Value) (S : Nat → Prop) (q : Nat) (w : World) (i : Int) (heg : ∀ args W, (callFunc fid args).run Tryz.prog W = .ok (.enter fid args) W) (hT : TlR S w L v) (hq : ¬ S q) (hc : w.heap[q]? = some (.cells #[.int .i64 i] 3 (0, 0))) (h0 : 0 ≤ i) (h1 : i ≤ 1000)
    (hgt : ∀ x ∈ L, ∀ j, 0 ≤ j → (fwT x j).1 = true → 0 ≤ (fwT x j).2 ∧ (fwT x j).2 < j)
    (hcl : ∀ x ∈ L, ∀ vx W (j : Int), TmR S W x vx → W.heap[q]? = some (.cells #[.int .i64 j] 3 (0, 0)) → 0 ≤ j → j ≤ 1000 → Upd (fun k => k = q) w W → Calls Tryz.prog fid #[vx, c] W fun e W' => e = .returned (.bool !(fwT x j).1) ∧ FwP q W W' (fwT x j).2) :
    Calls Tryz.prog 132 #[v, .func (.func fid) #[] #[c]] w fun e w' => ∃ r : Int, e = .returned (.int .i64 r) ∧ decide (0 ≤ r) = !(fwL L i).1 ∧ FwP q w w' (fwL L i).2 := by
  obtain ⟨a, cap, rfl⟩ := hT.shape
  obtain ⟨V, hV⟩ : ∃ V, fwL L i = V := ⟨_, rfl⟩
  rw [hV]
  have HV := Lib.hid hV
  have HT := Lib.hid hT
  have HC := Lib.hid hc
  have HQ := Lib.hid hq
  have HCL := Lib.hid hcl
  have HGT := Lib.hid hgt
  clear hT hc hq hcl hgt hV
  go_enter Tryz.func132, Tryz.ntmps132
  go_wp2_with fail
  go_loopg [8] L.length (fun gk iv wr => ∃ (k : Nat) (j : Int), iv = .int .i64 (k : Int) ∧ gk = L.length - k ∧ k ≤ L.length ∧ 0 ≤ j ∧ (k : Int) + j ≤ i ∧ Hid (FwP q w wr j) ∧ Hid (fwL (L.drop k) j = V))
  case atStart => exact ⟨0, i, rfl, rfl, Nat.zero_le _, h0, by omega, Lib.hid ⟨Upd.refl _ _, HC.out⟩, HV⟩
  case round =>
    obtain ⟨k, j, rfl, rfl, hk, hj0, hj1, HF, HVK⟩ := hrel
    by_cases hlt : k < L.length
    · obtain ⟨g, off, hga, _, hat⟩ := (HT.out.kept HF.out.1 (fun k hk e => HQ.out (e ▸ hk))).at_ (by omega)
      subst hga
      obtain ⟨xa, xc, q0, q1, q2, hkid⟩ := hat k hlt
      rw [← Nat.add_assoc] at q1 q2
      have z0 : (0 : Int) ≤ (k : Int) := by omega
      have z1 : (k : Int) < (L.length : Int) := by omega
      have z2 : decide ((k : Int) < (L.length : Int)) = true := decide_eq_true z1
      have z2' : decide (k < L.length) = true := decide_eq_true hlt
      have HX := Lib.hid (HCL.out (tg L k) (tg_mem L k hlt) _ wr j ⟨xa, xc, rfl, hkid⟩ HF.out.2 hj0 (by omega) HF.out.1)
      have hvk := HVK.out
      rw [tg_drop L k hlt] at hvk
      unfold fwL at hvk
      have hg := HGT.out (tg L k) (tg_mem L k hlt) j hj0
      dsimp only [tV] at HX
      obtain ⟨x, hx⟩ : ∃ x, tg L k = x := ⟨_, rfl⟩
      rw [hx] at q0 q1 q2 HX hvk hg
      obtain ⟨P, hP⟩ : ∃ P, fwT x j = P := ⟨_, rfl⟩
      rw [hP] at HX hvk hg
      obtain ⟨b, j2⟩ := P
      simp only at HX hvk hg
      have HVN := Lib.hid hvk
      have HG := Lib.hid hg
      clear hat hkid hx hP hvk hg HVK
      have henter := fun args W => heg args W
      go_wp2_with fail
      refine HX.out.mono ?_
      rintro e w4 ⟨rfl, hw4, hq4⟩
      have HF4 : Hid (FwP q w w4 j2) := Lib.hid ⟨HF.out.1.trans hw4, hq4⟩
      clear hw4 hq4 HX q0 q1 q2
      cases b with
      | true =>
        have HV2 : Hid (fwL (L.drop (k + 1)) j2 = V) := Lib.hid HVN.out
        obtain ⟨g1, g2⟩ := HG.out rfl
        simp only [Bool.not_true]
        clear HVN HG
        go_wp2_with fail
        go_roundg (L.length - (k + 1))
        case measure => omega
        case rel => exact ⟨k + 1, j2, by go_num, rfl, by omega, g1, by omega, HF4, HV2⟩
      | false =>
        obtain rfl : V = (false, j2) := HVN.out.symm
        simp only [Bool.not_false]
        clear HVN HG
        go_wp2_with fail
        go_ret
        exact ⟨_, rfl, by first | exact decide_eq_true z0 | exact z0, HF4.out⟩
    · obtain rfl : k = L.length := by omega
      have z2 : decide ((L.length : Int) < (L.length : Int)) = false := decide_eq_false (by omega)
      have hvk := HVK.out
      rw [List.drop_length] at hvk
      unfold fwL at hvk
      subst hvk
      go_wp2_with fail
      go_ret
      exact ⟨_, rfl, by decide, HF.out⟩
set_option maxRecDepth 100000 in
set_option maxHeartbeats 2000000 in
theorem conW_x (fid : Nat) (c : Value) (L : List Tm) (v : Value) (S : Nat → Prop) (q : Nat) (w : World) (i : Int) (heg : ∀ args W, (callFunc fid args).run Tryz.prog W = .ok (.enter fid args) W) (hT : TlR S w L v) (hq : ¬ S q) (hc : w.heap[q]? = some (.cells #[.int .i64 i] 3 (0, 0))) (h0 : 0 ≤ i) (h1 : i ≤ 1000)
    (hgt : ∀ x ∈ L, ∀ j, 0 ≤ j → (fwT x j).1 = true → 0 ≤ (fwT x j).2 ∧ (fwT x j).2 < j)
    (hcl : ∀ x ∈ L, ∀ vx W (j : Int), TmR S W x vx → W.heap[q]? = some (.cells #[.int .i64 j] 3 (0, 0)) → 0 ≤ j → j ≤ 1000 → Upd (fun k => k = q) w W → Calls Tryz.prog fid #[vx, c] W fun e W' => e = .returned (.bool !(fwT x j).1) ∧ FwP q W W' (fwT x j).2) :
    Calls Tryz.prog 60 #[v, .func (.func fid) #[] #[c]] w fun e w' => e = .returned (.bool !(fwL L i).1) ∧ FwP q w w' (fwL L i).2 := by
  have H := Lib.hid (idxW_x fid c L v S q w i heg hT hq hc h0 h1 hgt hcl)
  obtain ⟨a, cap, rfl⟩ := hT.shape
  obtain ⟨V, hV⟩ : ∃ V, fwL L i = V := ⟨_, rfl⟩
  rw [hV] at H ⊢
  obtain ⟨b, hb⟩ : ∃ b, (!V.1) = b := ⟨_, rfl⟩
  rw [hb] at H ⊢
  clear hT hq hc hgt hcl heg hV hb
  go_enter Tryz.func60, Tryz.ntmps60
  go_wp2_with fail
  refine H.out.mono ?_
  rintro e w4 ⟨r, rfl, hr, hw4⟩
  have HW4 := Lib.hid hw4
  clear hw4 H
  go_wp2_with fail
  go_ret
  exact ⟨by first | exact hr | (rw [← hr]; rfl), HW4.out⟩
theorem fw_lt : ∀ (t : Tm) (i : Int), 0 ≤ i → (fwT t i).1 = true → 0 ≤ (fwT t i).2 ∧ (fwT t i).2 < i := by
  refine Tm.ind (fun n s L ih => ?_)
  intro i h0 h
  unfold fwT at h ⊢
  by_cases hc : i - 1 < 0 ∨ 60 < n.size ∨ 60 < s.size
  · rw [if_pos hc] at h; cases h
  rw [if_neg hc] at h ⊢
  have hl : ∀ (M : List Tm), (∀ x ∈ M, ∀ j : Int, 0 ≤ j → (fwT x j).1 = true → 0 ≤ (fwT x j).2 ∧ (fwT x j).2 < j) → ∀ j : Int, 0 ≤ j → (fwL M j).1 = true → 0 ≤ (fwL M j).2 ∧ (fwL M j).2 ≤ j := by
    intro M
    induction M with
    | nil => intro _ j hj _; unfold fwL; exact ⟨hj, Int.le_refl _⟩
    | cons x M ihM =>
      intro hx j hj h
      unfold fwL at h ⊢
      cases hp : fwT x j with
      | mk b j2 =>
        rw [hp] at h
        cases b with
        | false => cases h
        | true =>
          simp only at h ⊢
          have h1 := hx x (List.mem_cons_self ..) j hj (by rw [hp])
          rw [hp] at h1
          have h2 := ihM (fun y hy => hx y (List.mem_cons_of_mem _ hy)) j2 h1.1 h
          exact ⟨h2.1, by have := h1.2; have := h2.2; simp only at *; omega⟩
  have h2 := hl L (fun x hx j hj h => ih x hx j hj h) (i - 1) (by omega) h
  exact ⟨h2.1, by omega⟩
set_option maxRecDepth 100000 in
set_option maxHeartbeats 2000000 in
theorem cl133_x (x : Tm) (xa : Option Addr) (xc : Nat) (q cb : Nat) (W : World) (P : Bool) (j : Int) (hq : q < W.heap.size) (hcb : W.cell? ⟨cb, 0, none⟩ = some (.pointer (some ⟨q, 0, none⟩))) (hfew : ∀ W', Ext W W' → Calls Tryz.prog 62 #[tV x (.slice xa x.kids.length xc), .pointer (some ⟨q, 0, none⟩)] W' fun e W'' => e = .returned (.bool P) ∧ FwP q W' W'' j) :
    Calls Tryz.prog 133 #[tV x (.slice xa x.kids.length xc), .pointer (some ⟨cb, 0, none⟩)] W fun e W' => e = .returned (.bool !P) ∧ FwP q W W' j := by
  have HF := Lib.hid hfew
  have HE := Lib.hid ((Upd.refl (fun _ => False) W).alloc (.cells #[.string x.name, .string x.sort, .slice xa x.kids.length xc] 24))
  have hb := alloc0 W (.cells #[.string x.name, .string x.sort, .slice xa x.kids.length xc] 24)
  have x0 := cellRow hb 0 (.string x.name) rfl
  have x1 := cellRow hb 1 (.string x.sort) rfl
  have x2 := cellRow hb 2 (.slice xa x.kids.length xc) rfl
  have y0 := HE.out.cell hcb (fun h => h)
  dsimp only [tV] at HF ⊢
  clear hfew hb
  go_enter Tryz.func133, Tryz.ntmps133
  go_wp2_with fail
  refine (HF.out _ HE.out).mono ?_
  rintro e w4 ⟨rfl, hw4, hj⟩
  have HW4 : Hid (FwP q W w4 j) := Lib.hid ⟨(HE.out.mono (fun _ _ h => h.elim)).trans hw4, hj⟩
  clear hw4 hj HF x0 x1 x2
  go_wp2_with fail
  go_ret
  exact ⟨rfl, HW4.out⟩
set_option maxRecDepth 100000 in
set_option maxHeartbeats 2000000 in
theorem cl61_x (x : Tm) (xa : Option Addr) (xc : Nat) (q cb : Nat) (W : World) (P : Bool) (j : Int) (hq : q < W.heap.size)  (hfew : ∀ W', Ext W W' → Calls Tryz.prog 62 #[tV x (.slice xa x.kids.length xc), .pointer (some ⟨q, 0, none⟩)] W' fun e W'' => e = .returned (.bool P) ∧ FwP q W' W'' j) :
    Calls Tryz.prog 61 #[tV x (.slice xa x.kids.length xc), .pointer (some ⟨q, 0, none⟩)] W fun e W' => e = .returned (.bool !P) ∧ FwP q W W' j := by
  have HF := Lib.hid hfew
  have HE := Lib.hid ((Upd.refl (fun _ => False) W).alloc (.cells #[.string x.name, .string x.sort, .slice xa x.kids.length xc] 24))
  have hb := alloc0 W (.cells #[.string x.name, .string x.sort, .slice xa x.kids.length xc] 24)
  have x0 := cellRow hb 0 (.string x.name) rfl
  have x1 := cellRow hb 1 (.string x.sort) rfl
  have x2 := cellRow hb 2 (.slice xa x.kids.length xc) rfl
  skip
  dsimp only [tV] at HF ⊢
  clear hfew hb
  go_enter Tryz.func61, Tryz.ntmps61
  go_wp2_with fail
  refine (HF.out _ HE.out).mono ?_
  rintro e w4 ⟨rfl, hw4, hj⟩
  have HW4 : Hid (FwP q W w4 j) := Lib.hid ⟨(HE.out.mono (fun _ _ h => h.elim)).trans hw4, hj⟩
  clear hw4 hj HF x0 x1 x2
  go_wp2_with fail
  go_ret
  exact ⟨rfl, HW4.out⟩
set_option maxRecDepth 100000 in
set_option maxHeartbeats 2000000 in
theorem few_x : ∀ (t : Tm) (v : Value) (S : Nat → Prop) (q : Nat) (w : World) (i : Int), TmR S w t v → ¬ S q → (∀ k, S k → k < w.heap.size) → w.heap[q]? = some (.cells #[.int .i64 i] 3 (0, 0)) → 0 ≤ i → i ≤ 1000 →
    Calls Tryz.prog 62 #[v, .pointer (some ⟨q, 0, none⟩)] w fun e w' => e = .returned (.bool (fwT t i).1) ∧ FwP q w w' (fwT t i).2 := by
  refine Tm.ind (fun n s L ih => ?_)
  intro v S q w i hT hq hS hc h0 h1
  obtain ⟨a, cap, rfl, hT⟩ := hT
  dsimp only [tV, Tm.name, Tm.sort, Tm.kids] at hT ⊢
  obtain ⟨V, hV⟩ : ∃ V, fwT (.mk n s L) i = V := ⟨_, rfl⟩
  rw [hV]
  have HV := Lib.hid hV
  have HTL := Lib.hid hT
  have HIH := Lib.hid ih
  have HQ := Lib.hid hq
  have HSS := Lib.hid hS
  have hqs : q < w.heap.size := (Array.getElem?_eq_some_iff.1 hc).1
  have HQS := Lib.hid hqs
  have HE0 := Lib.hid (((Upd.refl (fun _ => False) w).alloc (.cells #[.string n, .string s, .slice a L.length cap] 24)).alloc (.cells #[.pointer (some ⟨q, 0, none⟩)] 96))
  have HB2 := Lib.hid (allocOld (alloc0 w (.cells #[.string n, .string s, .slice a L.length cap] 24)) (.cells #[.pointer (some ⟨q, 0, none⟩)] 96))
  have HB3 := Lib.hid (alloc_at (w.alloc (.cells #[.string n, .string s, .slice a L.length cap] 24)) (.cells #[.pointer (some ⟨q, 0, none⟩)] 96) (n := w.heap.size + 1) (by simp))
  have HC := Lib.hid (HE0.out.heap hc (fun h => h))
  have x0 := cellRow HB3.out 0 (.pointer (some ⟨q, 0, none⟩)) rfl
  have c0 := cellRow HC.out 0 (.int .i64 i) rfl
  have f0 := fun j => frozenRow HC.out j
  clear ih hT hq hS hc hV
  go_enter Tryz.func62, Tryz.ntmps62
  go_wp2_with fail
  generalize (w.alloc (.cells #[.string n, .string s, .slice a L.length cap] 24)).alloc (.cells #[.pointer (some ⟨q, 0, none⟩)] 96) = w1 at *
  go_region
  have hb4 := setBlock HC.out 0 (.int .i64 (i - 1))
  have hu4 := ((Upd.refl (fun k => k = q) w1).setCell (p := ⟨q, 0, none⟩) (.inl rfl) (.int .i64 (i - 1))).drew
  have HQ4 : Hid (((w1.setCell ⟨q, 0, none⟩ (.int .i64 (i - 1))).drew).heap[q]? = some (.cells #[.int .i64 (i - 1)] 3 (0, 0))) := Lib.hid (by
    have h : (w1.setCell ⟨q, 0, none⟩ (.int .i64 (i - 1))).heap[q]? = some (.cells #[.int .i64 (i - 1)] 3 (0, 0)) := by simpa using hb4
    exact h)
  have HU4 : Hid (Upd (fun k => k = q) w ((w1.setCell ⟨q, 0, none⟩ (.int .i64 (i - 1))).drew)) := Lib.hid ((HE0.out.mono (fun _ _ h => h.elim)).trans hu4)
  have HB24 := Lib.hid (hu4.heap HB2.out (by have := HQS.out; omega))
  have HB34 := Lib.hid (hu4.heap HB3.out (by have := HQS.out; omega))
  have HS4 := Lib.hid hu4.size
  generalize (w1.setCell ⟨q, 0, none⟩ (.int .i64 (i - 1))).drew = w4 at *
  clear hb4 hu4 x0 c0 f0 HC HB2 HB3
  have y0 := cellRow HB34.out 0 (.pointer (some ⟨q, 0, none⟩)) rfl
  have c0 := cellRow HQ4.out 0 (.int .i64 (i - 1)) rfl
  have b0 := cellRow HB24.out 0 (.string n) rfl
  have b1 := cellRow HB24.out 1 (.string s) rfl
  have b2 := cellRow HB24.out 2 (.slice a L.length cap) rfl
  by_cases e1 : i - 1 < 0
  · have t1 : decide (i - 1 < 0) = true := decide_eq_true e1
    obtain rfl : V = (false, i - 1) := by rw [← HV.out]; unfold fwT; rw [if_pos (.inl e1)]
    go_wp2_with fail
    go_ret
    exact ⟨rfl, HU4.out, HQ4.out⟩
  have t1 : decide (i - 1 < 0) = false := decide_eq_false e1
  by_cases e2 : 60 < n.size
  · have t2 : decide ((60 : Int) < (n.size : Int)) = true := decide_eq_true (by omega)
    obtain rfl : V = (false, i - 1) := by rw [← HV.out]; unfold fwT; rw [if_pos (.inr (.inl e2))]
    go_wp2_with fail
    go_ret
    exact ⟨rfl, HU4.out, HQ4.out⟩
  have t2 : decide ((60 : Int) < (n.size : Int)) = false := decide_eq_false (by omega)
  by_cases e3 : 60 < s.size
  · have t3 : decide ((60 : Int) < (s.size : Int)) = true := decide_eq_true (by omega)
    obtain rfl : V = (false, i - 1) := by rw [← HV.out]; unfold fwT; rw [if_pos (.inr (.inr e3))]
    go_wp2_with fail
    go_ret
    exact ⟨rfl, HU4.out, HQ4.out⟩
  have t3 : decide ((60 : Int) < (s.size : Int)) = false := decide_eq_false (by omega)
  have hVL : fwL L (i - 1) = V := by rw [← HV.out]; unfold fwT; rw [if_neg (by rintro (h | h | h) <;> omega)]
  have HCO := Lib.hid (conW_x 133 (.pointer (some ⟨w.heap.size + 1, 0, none⟩)) L (.slice a L.length cap) S q w4 (i - 1) (enters_of Tryz.func133 (by kernel_rfl) rfl) (HTL.out.kept HU4.out (fun k hk e => HQ.out (e ▸ hk))) HQ.out HQ4.out (by omega) (by omega) (fun x hx j hj h => fw_lt x j hj h)
    (fun x hx vx W j hvx hWq hj0 hj1 hWu => by
      obtain ⟨xa, xc, rfl, hkx⟩ := hvx
      have hSW : ∀ k, S k → k < W.heap.size := fun k hk => Nat.lt_of_lt_of_le (HSS.out k hk) (Nat.le_trans HU4.out.size hWu.size)
      have hqW := (Array.getElem?_eq_some_iff.1 hWq).1
      refine cl133_x x xa xc q (w.heap.size + 1) W _ _ hqW (cellRow (hWu.heap HB34.out (by have := HQS.out; omega)) 0 _ rfl) (fun W' hW' => HIH.out x hx _ S q W' j ⟨xa, xc, rfl, hkx.ext hW'⟩ HQ.out (fun k hk => Nat.lt_of_lt_of_le (hSW k hk) hW'.size) (hW'.heap hWq (fun h => h)) hj0 hj1)))
  rw [hVL] at HCO
  clear hVL e1 e2 e3
  go_wp2_with fail
  refine HCO.out.mono ?_
  rintro e w6 ⟨rfl, hw6, hq6⟩
  have HF6 : Hid (FwP q w w6 V.2) := Lib.hid ⟨HU4.out.trans hw6, hq6⟩
  obtain ⟨bb, hbb⟩ : ∃ b, V.1 = b := ⟨_, rfl⟩
  clear hw6 hq6 HCO y0 c0 b0 b1 b2
  cases bb
  all_goals
    rw [hbb]
    simp only [Bool.not_true, Bool.not_false]
    go_wp2_with fail
    go_ret
    exact ⟨by first | (rw [hbb]; rfl) | (simp [hbb]) | rfl, HF6.out⟩

end Go.Proofs.YtlkcjmaiahnodaaGreatDoor

/- fits. -/
namespace Go.Proofs.YtlkcjmaiahnodaaGreatDoor
open Go.RowKit Go.Hw Go
set_option linter.unusedVariables false
set_option linter.unusedSimpArgs false

open Tm Go.Sort Go.Proofs Go.ChangeMaps
theorem fw_size : ∀ (t : Tm) (i : Int), 0 ≤ i → (fwT t i).1 = true → (t.size : Int) + (fwT t i).2 ≤ i ∧ ∀ x ∈ sbts t, x.name.size ≤ 60 ∧ x.sort.size ≤ 60 := by
  refine Tm.ind (fun n s L ih => ?_)
  intro i h0 h
  unfold fwT at h ⊢
  by_cases hc : i - 1 < 0 ∨ 60 < n.size ∨ 60 < s.size
  · rw [if_pos hc] at h; cases h
  rw [if_neg hc] at h ⊢
  have hl : ∀ (M : List Tm), (∀ x ∈ M, ∀ j : Int, 0 ≤ j → (fwT x j).1 = true → (x.size : Int) + (fwT x j).2 ≤ j ∧ ∀ y ∈ sbts x, y.name.size ≤ 60 ∧ y.sort.size ≤ 60) → ∀ j : Int, 0 ≤ j → (fwL M j).1 = true → (sizes M : Int) + (fwL M j).2 ≤ j ∧ ∀ x ∈ M, ∀ y ∈ sbts x, y.name.size ≤ 60 ∧ y.sort.size ≤ 60 := by
    intro M
    induction M with
    | nil => intro _ j hj _; unfold fwL; exact ⟨by simp [sizes], fun x hx => by cases hx⟩
    | cons x M ihM =>
      intro hx j hj h
      unfold fwL at h ⊢
      cases hp : fwT x j with
      | mk b j2 =>
        rw [hp] at h
        cases b with
        | false => cases h
        | true =>
          simp only at h ⊢
          have h1 := hx x (List.mem_cons_self ..) j hj (by rw [hp])
          have h3 := fw_lt x j hj (by rw [hp])
          rw [hp] at h1 h3
          have h2 := ihM (fun y hy => hx y (List.mem_cons_of_mem _ hy)) j2 h3.1 h
          have hsz : sizes (x :: M) = x.size + sizes M := by rw [sizes]
          refine ⟨by rw [hsz]; have := h1.1; have := h2.1; simp only at *; omega, fun y hy => ?_⟩
          rcases List.mem_cons.1 hy with e | hy
          · rw [e]; exact h1.2
          · exact h2.2 y hy
  have h2 := hl L (fun x hx j hj h => ih x hx j hj h) (i - 1) (by omega) h
  refine ⟨by rw [size_eq]; have := h2.1; simp only [Tm.kids]; omega, fun x hx => ?_⟩
  rw [sbts_eq] at hx
  rcases List.mem_cons.1 hx with e | hx
  · rw [e]; exact ⟨Nat.le_of_not_lt (fun h => hc (.inr (.inl h))), Nat.le_of_not_lt (fun h => hc (.inr (.inr h)))⟩
  · obtain ⟨y, hy, h3⟩ := List.mem_flatMap.1 hx
    exact h2.2 y hy x h3
/-- what fits says of two terms -/
theorem fits_two {a b : Tm} (h : (fwL [a, b] 60).1 = true) : a.size ≤ 60 ∧ b.size ≤ 60 ∧ (∀ x ∈ sbts a, x.name.size ≤ 60 ∧ x.sort.size ≤ 60) ∧ ∀ x ∈ sbts b, x.name.size ≤ 60 ∧ x.sort.size ≤ 60 := by
  unfold fwL at h
  cases hp : fwT a 60 with
  | mk b1 j1 =>
    rw [hp] at h
    cases b1 with
    | false => cases h
    | true =>
      simp only at h
      have h1 := fw_size a 60 (by decide) (by rw [hp])
      have g1 := fw_lt a 60 (by decide) (by rw [hp])
      rw [hp] at h1 g1
      simp only at h1 g1
      unfold fwL at h
      cases hq : fwT b j1 with
      | mk b2 j2 =>
        rw [hq] at h
        cases b2 with
        | false => cases h
        | true =>
          have h2 := fw_size b j1 g1.1 (by rw [hq])
          have g2 := fw_lt b j1 g1.1 (by rw [hq])
          rw [hq] at h2 g2
          simp only at h2 g2
          exact ⟨by omega, by omega, h1.2, h2.2⟩
set_option maxRecDepth 100000 in
set_option maxHeartbeats 2000000 in
theorem fits_x (L : List Tm) (v : Value) (S : Nat → Prop) (w : World) (hT : TlR S w L v) (hS : ∀ k, S k → k < w.heap.size) :
    Calls Tryz.prog 14 #[v] w fun e w' => e = .returned (.bool (fwL L 60).1) ∧ Ext w w' := by
  have hE := (Upd.refl (fun _ => False) w).alloc (.cells #[.int .i64 60] 3)
  have hB := alloc0 w (.cells #[.int .i64 60] 3)
  have HE := Lib.hid hE
  have HCO := Lib.hid (conW_x 61 (.pointer (some ⟨w.heap.size, 0, none⟩)) L v S w.heap.size (w.alloc (.cells #[.int .i64 60] 3)) 60 (enters_of Tryz.func61 (by kernel_rfl) rfl) (hT.ext hE) (fun h => Nat.lt_irrefl _ (hS _ h)) hB (by decide) (by decide) (fun x hx j hj h => fw_lt x j hj h)
    (fun x hx vx W j hvx hWq hj0 hj1 hWu => by
      obtain ⟨xa, xc, rfl, hkx⟩ := hvx
      have hSW : ∀ k, S k → k < W.heap.size := fun k hk => Nat.lt_of_lt_of_le (hS k hk) (Nat.le_trans hE.size hWu.size)
      have hqW := (Array.getElem?_eq_some_iff.1 hWq).1
      refine cl61_x x xa xc w.heap.size 0 W _ _ hqW (fun W' hW' => few_x x _ S w.heap.size W' j ⟨xa, xc, rfl, hkx.ext hW'⟩ (fun h => Nat.lt_irrefl _ (hS _ h)) (fun k hk => Nat.lt_of_lt_of_le (hSW k hk) hW'.size) (hW'.heap hWq (fun h => h)) hj0 hj1)))
  obtain ⟨a, cap, rfl⟩ := hT.shape
  obtain ⟨V, hV⟩ : ∃ V, fwL L 60 = V := ⟨_, rfl⟩
  rw [hV] at HCO ⊢
  obtain ⟨bb, hbb⟩ : ∃ b, V.1 = b := ⟨_, rfl⟩
  rw [hbb] at HCO ⊢
  clear hT hS hE hB hV hbb
  go_enter Tryz.func14, Tryz.ntmps14
  go_wp2_with fail
  refine HCO.out.mono ?_
  rintro e w6 ⟨rfl, hw6, hq6⟩
  have HE6 : Hid (Ext w w6) := Lib.hid (HE.out.trans' hw6 (fun j hj e => by omega))
  clear hw6 hq6 HCO
  go_wp2_with fail
  go_ret
  exact ⟨by simp, HE6.out⟩

end Go.Proofs.YtlkcjmaiahnodaaGreatDoor

/- The law UnifyRenames. -/
namespace Go.Proofs.YtlkcjmaiahnodaaGreatDoor
open Go.RowKit Go.Hw Go
set_option linter.unusedVariables false
set_option linter.unusedSimpArgs false

open Tm Go.Sort Go.Proofs Go.ChangeMaps
theorem boxed {w w5 : World} (n s : By) {K : List Tm} {r : Value} {B : Nat → Prop} (hE : Ext w w5) (hT : TlR B w5 K r) (hB : ∀ j, B j → j < w5.heap.size) :
    Ext w (w5.alloc (.cells #[.string n, .string s, r] 24)) ∧ (w5.alloc (.cells #[.string n, .string s, r] 24)).heap[w5.heap.size]? = some (.cells #[.string n, .string s, r] 24 (0, 0)) ∧
    TlR (fun j => j < (w5.alloc (.cells #[.string n, .string s, r] 24)).heap.size) (w5.alloc (.cells #[.string n, .string s, r] 24)) K r := by
  have ha := (Upd.refl (fun _ => False) w5).alloc (.cells #[.string n, .string s, r] 24)
  exact ⟨hE.trans ha, alloc0 w5 _, (hT.ext ha).weaken (fun j hj => Nat.lt_of_lt_of_le (hB j hj) ha.size)⟩
theorem ren_size (suf : By) : ∀ t : Tm, (sbT (fun n s => vr (n ++ suf) s) t).size ≤ t.size := by
  refine Tm.ind (fun n s L ih => ?_)
  by_cases hs : s = nul
  · subst hs
    rw [sbT_opn, size_eq, size_eq]
    simp only [Tm.kids]
    have : ∀ M : List Tm, (∀ x ∈ M, (sbT (fun n s => vr (n ++ suf) s) x).size ≤ x.size) → sizes (M.map (sbT (fun n s => vr (n ++ suf) s))) ≤ sizes M := by
      intro M
      induction M with
      | nil => intro _; simp [sizes]
      | cons x M ihM =>
        intro h
        rw [List.map_cons, sizes, sizes]
        have h1 := h x (List.mem_cons_self ..)
        have h2 := ihM (fun y hy => h y (List.mem_cons_of_mem _ hy))
        omega
    have := this L ih
    omega
  · rw [sbT_var _ hs, size_eq]
    simp [vr, size_eq, sizes, Tm.kids]
theorem rn_size (suf : By) (t : Tm) : (rnF suf t).1.size ≤ t.size + 1 := by
  unfold rnF
  split
  · split
    · exact Nat.le_trans (ren_size suf t) (Nat.le_succ _)
    · simp [size_eq, sizes, Tm.kids]
  · simp [size_eq, sizes, Tm.kids]
set_option maxRecDepth 100000 in
set_option maxHeartbeats 2000000 in
theorem ren_law (a b : Tm) (suf : By) (va vb : Value) (w : World) (hA : TmR (fun k => k < w.heap.size) w a va) (hB : TmR (fun k => k < w.heap.size) w b vb) (htab : AscT w) :
    Calls Tryz.prog 4 #[va, vb, .string suf] w fun e w' => e = .returned (.bool true) ∧ Ext w w' := by
  have HA := Lib.hid hA
  have HB := Lib.hid hB
  have HAW := Lib.hid (fun W (hW : Ext w W) => awake_x W (asc_ext htab hW))
  have HRN0 := Lib.hid (fun (h60 : a.size ≤ 60) (hv : ∀ f ∈ vof a, f.1.size + suf.size ≤ 100000) W (hW : Ext w W) => rename_x a _ suf W (asc_ext htab hW) ((HA.out.ext hW).weaken (fun k hk => Nat.lt_of_lt_of_le hk hW.size)) (by omega) hv)
  have HRR0 := Lib.hid (fun (h60 : a.size ≤ 60) (hv : ∀ f ∈ vof a, f.1.size + suf.size ≤ 100000) W (hW : Ext w W) => rrename_x a _ suf W ((HA.out.ext hW).weaken (fun k hk => Nat.lt_of_lt_of_le hk hW.size)) (by omega) hv)
  have HVR0 := Lib.hid (fun (h60 : a.size ≤ 60) (h61 : b.size ≤ 60) W (hW : Ext w W) => variant_x a b _ _ W (asc_ext htab hW) ((HA.out.ext hW).weaken (fun k hk => Nat.lt_of_lt_of_le hk hW.size)) ((HB.out.ext hW).weaken (fun k hk => Nat.lt_of_lt_of_le hk hW.size)) (by omega) (by omega))
  have HIN0 := Lib.hid (fun (h60 : a.size ≤ 60) (h61 : b.size ≤ 60) W (hW : Ext w W) => instance_x a b _ _ W (asc_ext htab hW) ((HA.out.ext hW).weaken (fun k hk => Nat.lt_of_lt_of_le hk hW.size)) ((HB.out.ext hW).weaken (fun k hk => Nat.lt_of_lt_of_le hk hW.size)) (by omega) (by omega))
  have HFA := Lib.hid (fun W (hW : Ext w W) => rformed_x a _ _ W (HA.out.ext hW))
  have HFB := Lib.hid (fun W (hW : Ext w W) => rformed_x b _ _ W (HB.out.ext hW))
  have HRV0 := Lib.hid (fun (h60 : a.size ≤ 60) (h61 : b.size ≤ 60) (h1 : wf nmB a = true) (h2 : wf nmB b = true) W (hW : Ext w W) => rvari_x a b _ _ W ((HA.out.ext hW).weaken (fun k hk => Nat.lt_of_lt_of_le hk hW.size)) ((HB.out.ext hW).weaken (fun k hk => Nat.lt_of_lt_of_le hk hW.size)) (by omega) (by omega) h1 h2)
  have HRI0 := Lib.hid (fun (h60 : a.size ≤ 60) (h61 : b.size ≤ 60) (h1 : wf nmB a = true) W (hW : Ext w W) => rinst_x a b _ _ W ((HA.out.ext hW).weaken (fun k hk => Nat.lt_of_lt_of_le hk hW.size)) ((HB.out.ext hW).weaken (fun k hk => Nat.lt_of_lt_of_le hk hW.size)) (by omega) (by omega) h1)
  obtain ⟨aa, ac, rfl, hTa⟩ := hA
  obtain ⟨ba, bc, rfl, hTb⟩ := hB
  dsimp only [tV] at HRN0 HRR0 HVR0 HIN0 HFA HFB HRV0 HRI0 ⊢
  have HTA := Lib.hid hTa
  have HTB := Lib.hid hTb
  have HZ := Lib.hid (((Upd.refl (fun _ => False) w).alloc (.cells #[.string a.name, .string a.sort, .slice aa a.kids.length ac] 24)).alloc (.cells #[.string b.name, .string b.sort, .slice ba b.kids.length bc] 24))
  have H2 := Lib.hid (allocOld (alloc0 w (.cells #[.string a.name, .string a.sort, .slice aa a.kids.length ac] 24)) (.cells #[.string b.name, .string b.sort, .slice ba b.kids.length bc] 24))
  have H3 := Lib.hid (alloc_at (w.alloc (.cells #[.string a.name, .string a.sort, .slice aa a.kids.length ac] 24)) (.cells #[.string b.name, .string b.sort, .slice ba b.kids.length bc] 24) (n := w.heap.size + 1) (by simp))
  clear hTa hTb htab
  go_enter Tryz.func4, Tryz.ntmps4
  go_wp2_with fail
  generalize ((w.alloc (.cells #[.string a.name, .string a.sort, .slice aa a.kids.length ac] 24)).alloc (.cells #[.string b.name, .string b.sort, .slice ba b.kids.length bc] 24)) = wa at *
  refine (HAW.out _ HZ.out).mono ?_
  rintro e w1 ⟨rfl, hw1⟩
  have HE1 := Lib.hid (HZ.out.trans hw1)
  have H21 := Lib.hid (hw1.heap H2.out (fun h => h))
  have H31 := Lib.hid (hw1.heap H3.out (fun h => h))
  clear hw1 H2 H3 HZ HAW
  have x0 := cellRow H21.out 0 (.string a.name) rfl
  have x1 := cellRow H21.out 1 (.string a.sort) rfl
  have x2 := cellRow H21.out 2 (.slice aa a.kids.length ac) rfl
  have y0 := cellRow H31.out 0 (.string b.name) rfl
  have y1 := cellRow H31.out 1 (.string b.sort) rfl
  have y2 := cellRow H31.out 2 (.slice ba b.kids.length bc) rfl
  have hX2 := (Upd.refl (fun _ => False) w1).alloc (.cells #[.string a.name, .string a.sort, .slice aa a.kids.length ac, .string b.name, .string b.sort, .slice ba b.kids.length bc] 24)
  have HFI := Lib.hid (fits_x [a, b] _ (fun k => k < (w1.alloc (.cells #[.string a.name, .string a.sort, .slice aa a.kids.length ac, .string b.name, .string b.sort, .slice ba b.kids.length bc] 24)).heap.size) _ (pair_tl (alloc0 w1 (.cells #[.string a.name, .string a.sort, .slice aa a.kids.length ac, .string b.name, .string b.sort, .slice ba b.kids.length bc] 24)) (by simp) (((HTA.out.ext HE1.out).ext hX2).weaken (fun k hk => Nat.lt_of_lt_of_le hk (Nat.le_trans HE1.out.size hX2.size))) (((HTB.out.ext HE1.out).ext hX2).weaken (fun k hk => Nat.lt_of_lt_of_le hk (Nat.le_trans HE1.out.size hX2.size)))) (fun k hk => hk))
  have HX2 := Lib.hid hX2
  have HFT : Hid ((fwL [a, b] 60).1 = true → a.size ≤ 60 ∧ b.size ≤ 60 ∧ ∀ f ∈ vof a, f.1.size ≤ 60) := Lib.hid (fun h => by
    have h1 := fits_two h
    exact ⟨h1.1, h1.2.1, fun f hf => by obtain ⟨x, hx, h2, _⟩ := vof_node hf; rw [← h2]; exact (h1.2.2.1 x hx).1⟩)
  obtain ⟨FT, hFT⟩ : ∃ x, (fwL [a, b] 60).1 = x := ⟨_, rfl⟩
  rw [hFT] at HFI HFT
  clear hX2 hFT HTA HTB
  go_wp2_with fail
  refine HFI.out.mono ?_
  rintro e w3 ⟨rfl, hw3⟩
  have HX3 := Lib.hid (HX2.out.trans hw3)
  have HE3 := Lib.hid (HE1.out.trans HX3.out)
  have H23 := Lib.hid (HX3.out.heap H21.out (fun h => h))
  have H33 := Lib.hid (HX3.out.heap H31.out (fun h => h))
  clear hw3 H21 H31 HX2 HX3 HE1 HFI x0 x1 x2 y0 y1 y2
  cases FT
  case false =>
    have HEE := HE3
    go_wp2_with fail
    all_goals go_ret
    all_goals exact ⟨rfl, HEE.out⟩
  obtain ⟨h60, h61, hvz⟩ := HFT.out rfl
  by_cases hs : 60 < suf.size
  · have z1 : decide ((60 : Int) < (suf.size : Int)) = true := decide_eq_true (by omega)
    have z2 : (60 : Int) < (suf.size : Int) := by omega
    have HEE := HE3
    clear hvz h60 h61 hs
    go_wp2_with fail
    all_goals go_ret
    all_goals exact ⟨rfl, HEE.out⟩
  have z1 : decide ((60 : Int) < (suf.size : Int)) = false := decide_eq_false (by omega)
  have z2 : ¬ (60 : Int) < (suf.size : Int) := by omega
  have hvl : ∀ f ∈ vof a, f.1.size + suf.size ≤ 100000 := fun f hf => by have := hvz f hf; omega
  have HRN := Lib.hid (HRN0.out h60 hvl)
  have HRR := Lib.hid (HRR0.out h60 hvl)
  have HVR := Lib.hid (HVR0.out h60 h61)
  have HIN := Lib.hid (HIN0.out h60 h61)
  have HRV := Lib.hid (HRV0.out h60 h61)
  have HRI := Lib.hid (HRI0.out h60 h61)
  have hzs := rn_size suf a
  obtain ⟨Z, hZ⟩ : ∃ Z, rnF suf a = Z := ⟨_, rfl⟩
  rw [hZ] at HRN HRR hzs
  have HZS : Hid (Z.1.size ≤ 1000000) := Lib.hid (by omega)
  have HVF : Hid (varF' a b = if (wf nmB a && wf nmB b) = true then ((mtB a b []).isSome && (mtB b a []).isSome, 0) else (false, 1)) := Lib.hid rfl
  have HIF : Hid (insF a b = if (wf nmB a && wf nmB b) = true then ((mtB a b []).isSome, 0) else (false, 1)) := Lib.hid rfl
  obtain ⟨VF, hVF⟩ : ∃ Z, varF' a b = Z := ⟨_, rfl⟩
  obtain ⟨IF, hIF⟩ : ∃ Z, insF a b = Z := ⟨_, rfl⟩
  rw [hVF] at HVR HVF
  rw [hIF] at HIN HIF
  obtain ⟨vb, vn⟩ := VF
  obtain ⟨ib, inn⟩ := IF
  dsimp only at HVR HIN
  obtain ⟨m1, hm1⟩ : ∃ x, (mtB a b []).isSome = x := ⟨_, rfl⟩
  obtain ⟨m2, hm2⟩ : ∃ x, (mtB b a []).isSome = x := ⟨_, rfl⟩
  rw [hm1] at HRV HRI HIF
  rw [hm1, hm2] at HVF
  rw [hm2] at HRV
  obtain ⟨wa1, hwa1⟩ : ∃ x, wf nmB a = x := ⟨_, rfl⟩
  obtain ⟨wb1, hwb1⟩ : ∃ x, wf nmB b = x := ⟨_, rfl⟩
  rw [hwa1] at HFA HVF HIF HRV HRI
  rw [hwb1] at HFB HVF HIF HRV
  clear hs hvz h60 h61 hvl HRN0 HRR0 HVR0 HIN0 HRV0 HRI0 HFT hzs hZ hVF hIF hm1 hm2 hwa1 hwb1
  go_upto_region 5 with fail
  have x0 := cellRow H23.out 0 (.string a.name) rfl
  have x1 := cellRow H23.out 1 (.string a.sort) rfl
  have x2 := cellRow H23.out 2 (.slice aa a.kids.length ac) rfl
  have y0 := cellRow H33.out 0 (.string b.name) rfl
  have y1 := cellRow H33.out 1 (.string b.sort) rfl
  have y2 := cellRow H33.out 2 (.slice ba b.kids.length bc) rfl
  go_cut [7, 8] (fun r7 r8 ww => ∃ q ya yc, r7 = .pointer (some ⟨q, 0, none⟩) ∧ r8 = .int .i64 Z.2 ∧ Hid (Ext w3 ww) ∧ Hid (ww.heap[q]? = some (.cells #[.string Z.1.name, .string Z.1.sort, .slice ya Z.1.kids.length yc] 24 (0, 0))) ∧ Hid (TlR (fun j => j < ww.heap.size) ww Z.1.kids (.slice ya Z.1.kids.length yc)))
  case first =>
    go_wp2_with fail
    refine (HRN.out _ HE3.out).mono ?_
    rintro e w5 ⟨r5, B5, rfl, hT5, hb5, hw5⟩
    obtain ⟨ya, yc, hry⟩ := TlO.shape hT5
    subst hry
    have HBX := Lib.hid (boxed Z.1.name Z.1.sort hw5 hT5.read (fun j hj => (hb5 j hj).2))
    clear hT5 hb5 hw5 HRN
    go_wp2_with fail
    go_meet
    case rel => exact ⟨_, _, _, rfl, rfl, Lib.hid HBX.out.1, Lib.hid HBX.out.2.1, Lib.hid HBX.out.2.2⟩
  case rest =>
  obtain ⟨q, qa, qc, rfl, rfl, HX4, HQ4, HTQ4⟩ := hcut
  generalize wc = w4 at *
  have HE4 := Lib.hid (HE3.out.trans HX4.out)
  have H24 := Lib.hid (HX4.out.heap H23.out (fun h => h))
  have H34 := Lib.hid (HX4.out.heap H33.out (fun h => h))
  clear H23 H33 HRN HX4 HE3 x0 x1 x2 y0 y1 y2
  have x0 := cellRow H24.out 0 (.string a.name) rfl
  have x1 := cellRow H24.out 1 (.string a.sort) rfl
  have x2 := cellRow H24.out 2 (.slice aa a.kids.length ac) rfl
  have y0 := cellRow H34.out 0 (.string b.name) rfl
  have y1 := cellRow H34.out 1 (.string b.sort) rfl
  have y2 := cellRow H34.out 2 (.slice ba b.kids.length bc) rfl
  go_upto_region 6 with fail
  go_cut [9, 10] (fun r7 r8 ww => ∃ q ya yc, r7 = .pointer (some ⟨q, 0, none⟩) ∧ r8 = .int .i64 Z.2 ∧ Hid (Ext w4 ww) ∧ Hid (ww.heap[q]? = some (.cells #[.string Z.1.name, .string Z.1.sort, .slice ya Z.1.kids.length yc] 24 (0, 0))) ∧ Hid (TlR (fun j => j < ww.heap.size) ww Z.1.kids (.slice ya Z.1.kids.length yc)))
  case first =>
    go_wp2_with fail
    refine (HRR.out _ HE4.out).mono ?_
    rintro e w5 ⟨r5, B5, rfl, hT5, hb5, hw5⟩
    obtain ⟨ya, yc, hry⟩ := TlO.shape hT5
    subst hry
    have HBX := Lib.hid (boxed Z.1.name Z.1.sort hw5 hT5.read (fun j hj => (hb5 j hj).2))
    clear hT5 hb5 hw5 HRR
    go_wp2_with fail
    go_meet
    case rel => exact ⟨_, _, _, rfl, rfl, Lib.hid HBX.out.1, Lib.hid HBX.out.2.1, Lib.hid HBX.out.2.2⟩
  case rest =>
  obtain ⟨r, ra, rc, rfl, rfl, HX5, HR5, HTR5⟩ := hcut
  generalize wc = w5 at *
  have HE5 := Lib.hid (HE4.out.trans HX5.out)
  have HTQ5 := Lib.hid (HTQ4.out.ext HX5.out)
  have H25 := Lib.hid (HX5.out.heap H24.out (fun h => h))
  have H35 := Lib.hid (HX5.out.heap H34.out (fun h => h))
  have HQ5 := Lib.hid (HX5.out.heap HQ4.out (fun h => h))
  clear H24 H34 HRR HX5 HE4 HQ4 HTQ4 x0 x1 x2 y0 y1 y2
  have x0 := cellRow H25.out 0 (.string a.name) rfl
  have x1 := cellRow H25.out 1 (.string a.sort) rfl
  have x2 := cellRow H25.out 2 (.slice aa a.kids.length ac) rfl
  have y0 := cellRow H35.out 0 (.string b.name) rfl
  have y1 := cellRow H35.out 1 (.string b.sort) rfl
  have y2 := cellRow H35.out 2 (.slice ba b.kids.length bc) rfl
  go_wp2_with fail
  refine (HVR.out _ HE5.out).mono ?_
  rintro e w7 ⟨rfl, hw7⟩
  have HE7 := Lib.hid (HE5.out.trans hw7)
  have HTQ7 := Lib.hid (HTQ5.out.ext hw7)
  have HTR7 := Lib.hid (HTR5.out.ext hw7)
  have H27 := Lib.hid (hw7.heap H25.out (fun h => h))
  have H37 := Lib.hid (hw7.heap H35.out (fun h => h))
  have HQ7 := Lib.hid (hw7.heap HQ5.out (fun h => h))
  have HR7 := Lib.hid (hw7.heap HR5.out (fun h => h))
  clear hw7 H25 H35 HQ5 HR5 HTQ5 HTR5 HE5 HVR x0 x1 x2 y0 y1 y2
  have x0 := cellRow H27.out 0 (.string a.name) rfl
  have x1 := cellRow H27.out 1 (.string a.sort) rfl
  have x2 := cellRow H27.out 2 (.slice aa a.kids.length ac) rfl
  have y0 := cellRow H37.out 0 (.string b.name) rfl
  have y1 := cellRow H37.out 1 (.string b.sort) rfl
  have y2 := cellRow H37.out 2 (.slice ba b.kids.length bc) rfl
  go_wp2_with fail
  refine (HIN.out _ HE7.out).mono ?_
  rintro e w8 ⟨rfl, hw8⟩
  have HE8 := Lib.hid (HE7.out.trans hw8)
  have HTQ8 := Lib.hid (HTQ7.out.ext hw8)
  have HTR8 := Lib.hid (HTR7.out.ext hw8)
  have H28 := Lib.hid (hw8.heap H27.out (fun h => h))
  have H38 := Lib.hid (hw8.heap H37.out (fun h => h))
  have HQ8 := Lib.hid (hw8.heap HQ7.out (fun h => h))
  have HR8 := Lib.hid (hw8.heap HR7.out (fun h => h))
  clear hw8 H27 H37 HQ7 HR7 HTQ7 HTR7 HE7 HIN x0 x1 x2 y0 y1 y2
  have x0 := cellRow H28.out 0 (.string a.name) rfl
  have x1 := cellRow H28.out 1 (.string a.sort) rfl
  have x2 := cellRow H28.out 2 (.slice aa a.kids.length ac) rfl
  have y0 := cellRow H38.out 0 (.string b.name) rfl
  have y1 := cellRow H38.out 1 (.string b.sort) rfl
  have y2 := cellRow H38.out 2 (.slice ba b.kids.length bc) rfl
  go_wp2_with fail
  refine (HFA.out _ HE8.out).mono ?_
  rintro e w9 ⟨rfl, hw9⟩
  have HE9 := Lib.hid (HE8.out.trans hw9)
  have HTQ9 := Lib.hid (HTQ8.out.ext hw9)
  have HTR9 := Lib.hid (HTR8.out.ext hw9)
  have H29 := Lib.hid (hw9.heap H28.out (fun h => h))
  have H39 := Lib.hid (hw9.heap H38.out (fun h => h))
  have HQ9 := Lib.hid (hw9.heap HQ8.out (fun h => h))
  have HR9 := Lib.hid (hw9.heap HR8.out (fun h => h))
  clear hw9 H28 H38 HQ8 HR8 HTQ8 HTR8 HE8 HFA x0 x1 x2 y0 y1 y2
  have y0 := cellRow H39.out 0 (.string b.name) rfl
  have y1 := cellRow H39.out 1 (.string b.sort) rfl
  have y2 := cellRow H39.out 2 (.slice ba b.kids.length bc) rfl
  cases wa1
  case false =>
    obtain ⟨rfl, rfl⟩ : vb = false ∧ vn = 1 := by have := HVF.out; simp at this; exact this
    obtain ⟨rfl, rfl⟩ : ib = false ∧ inn = 1 := by have := HIF.out; simp at this; exact this
    have q0 := cellRow HQ9.out 0 (.string Z.1.name) rfl
    have q1 := cellRow HQ9.out 1 (.string Z.1.sort) rfl
    have q2 := cellRow HQ9.out 2 (.slice qa Z.1.kids.length qc) rfl
    have r0 := cellRow HR9.out 0 (.string Z.1.name) rfl
    have r1 := cellRow HR9.out 1 (.string Z.1.sort) rfl
    have r2 := cellRow HR9.out 2 (.slice ra Z.1.kids.length rc) rfl
    have HSM := Lib.hid (same_x Z.1 Z.1 _ _ _ _ w9 ⟨qa, qc, rfl, HTQ9.out⟩ ⟨ra, rc, rfl, HTR9.out⟩ HZS.out)
    dsimp only [tV] at HSM
    rw [decide_eq_true (rfl : Z.1 = Z.1)] at HSM
    clear y0 y1 y2 HVF HIF HRV HRI
    go_wp2_with fail
    refine HSM.out.mono ?_
    rintro e w10 ⟨rfl, hw10⟩
    have HEE := Lib.hid (HE9.out.trans hw10)
    clear hw10 HSM q0 q1 q2 r0 r1 r2
    go_wp2_with fail
    all_goals go_ret
    all_goals exact ⟨rfl, HEE.out⟩
  go_wp2_with fail
  refine (HFB.out _ HE9.out).mono ?_
  rintro e w10 ⟨rfl, hw10⟩
  have HE10 := Lib.hid (HE9.out.trans hw10)
  have HTQ10 := Lib.hid (HTQ9.out.ext hw10)
  have HTR10 := Lib.hid (HTR9.out.ext hw10)
  have H210 := Lib.hid (hw10.heap H29.out (fun h => h))
  have H310 := Lib.hid (hw10.heap H39.out (fun h => h))
  have HQ10 := Lib.hid (hw10.heap HQ9.out (fun h => h))
  have HR10 := Lib.hid (hw10.heap HR9.out (fun h => h))
  clear hw10 H29 H39 HQ9 HR9 HTQ9 HTR9 HE9 HFB y0 y1 y2
  have q0 := cellRow HQ10.out 0 (.string Z.1.name) rfl
  have q1 := cellRow HQ10.out 1 (.string Z.1.sort) rfl
  have q2 := cellRow HQ10.out 2 (.slice qa Z.1.kids.length qc) rfl
  have r0 := cellRow HR10.out 0 (.string Z.1.name) rfl
  have r1 := cellRow HR10.out 1 (.string Z.1.sort) rfl
  have r2 := cellRow HR10.out 2 (.slice ra Z.1.kids.length rc) rfl
  have HSM := Lib.hid (same_x Z.1 Z.1 _ _ _ _ w10 ⟨qa, qc, rfl, HTQ10.out⟩ ⟨ra, rc, rfl, HTR10.out⟩ HZS.out)
  dsimp only [tV] at HSM
  rw [decide_eq_true (rfl : Z.1 = Z.1)] at HSM
  cases wb1
  case false =>
    obtain ⟨rfl, rfl⟩ : vb = false ∧ vn = 1 := by have := HVF.out; simp at this; exact this
    obtain ⟨rfl, rfl⟩ : ib = false ∧ inn = 1 := by have := HIF.out; simp at this; exact this
    clear HVF HIF HRV HRI
    go_wp2_with fail
    refine HSM.out.mono ?_
    rintro e w11 ⟨rfl, hw11⟩
    have HEE := Lib.hid (HE10.out.trans hw11)
    clear hw11 HSM q0 q1 q2 r0 r1 r2
    go_wp2_with fail
    all_goals go_ret
    all_goals exact ⟨rfl, HEE.out⟩
  obtain ⟨rfl, rfl⟩ : vb = (m1 && m2) ∧ vn = 0 := by have := HVF.out; simp at this; simpa using this
  obtain ⟨e1, rfl⟩ : ib = m1 ∧ inn = 0 := by have := HIF.out; simp at this; simpa using this
  subst ib
  obtain ⟨mm, hmm⟩ : ∃ x, (m1 && m2) = x := ⟨_, rfl⟩
  rw [hmm] at HRV
  have HRV1 := Lib.hid (HRV.out (by trivial) (by trivial))
  have HRI1 := Lib.hid (HRI.out (by trivial))
  try rw [hmm]
  clear HVF HIF HRV HRI hmm
  go_wp2_with fail
  refine HSM.out.mono ?_
  rintro e w11 ⟨rfl, hw11⟩
  have HE11 := Lib.hid (HE10.out.trans hw11)
  have H211 := Lib.hid (hw11.heap H210.out (fun h => h))
  have H311 := Lib.hid (hw11.heap H310.out (fun h => h))
  clear hw11 HSM q0 q1 q2 r0 r1 r2 H210 H310 HQ10 HR10 HTQ10 HTR10 HE10
  have x0 := cellRow H211.out 0 (.string a.name) rfl
  have x1 := cellRow H211.out 1 (.string a.sort) rfl
  have x2 := cellRow H211.out 2 (.slice aa a.kids.length ac) rfl
  have y0 := cellRow H311.out 0 (.string b.name) rfl
  have y1 := cellRow H311.out 1 (.string b.sort) rfl
  have y2 := cellRow H311.out 2 (.slice ba b.kids.length bc) rfl
  go_wp2_with fail
  refine (HRV1.out _ HE11.out).mono ?_
  rintro e w12 ⟨rfl, hw12⟩
  have HE12 := Lib.hid (HE11.out.trans hw12)
  have H212 := Lib.hid (hw12.heap H211.out (fun h => h))
  have H312 := Lib.hid (hw12.heap H311.out (fun h => h))
  clear hw12 HRV1 H211 H311 HE11 x0 x1 x2 y0 y1 y2
  have x0 := cellRow H212.out 0 (.string a.name) rfl
  have x1 := cellRow H212.out 1 (.string a.sort) rfl
  have x2 := cellRow H212.out 2 (.slice aa a.kids.length ac) rfl
  have y0 := cellRow H312.out 0 (.string b.name) rfl
  have y1 := cellRow H312.out 1 (.string b.sort) rfl
  have y2 := cellRow H312.out 2 (.slice ba b.kids.length bc) rfl
  go_wp2_with fail
  refine (HRI1.out _ HE12.out).mono ?_
  rintro e w13 ⟨rfl, hw13⟩
  have HEE := Lib.hid (HE12.out.trans hw13)
  clear hw13 HRI1 x0 x1 x2 y0 y1 y2 H212 H312 HE12
  go_wp2_with fail
  all_goals go_ret
  all_goals exact ⟨rfl, HEE.out⟩

end Go.Proofs.YtlkcjmaiahnodaaGreatDoor
