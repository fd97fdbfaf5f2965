/- The texts N51 N52 N59 N60 N62 Y17 Y18 Y33, one behind the other. -/
import Derived.Test.YtjjaknmnhhfjeaaGreatDoorUAJ
import Derived.Test.YtjjaknmnhhfjeaaGreatDoorUAG
import Derived.Lib.AtoiAllCases
/- big, of law06. -/
namespace Go.Proofs.YtjjaknmnhhfjeaaGreatDoor
open Go.RowKit Go.Hw Go
set_option linter.unusedVariables false
set_option linter.unusedSimpArgs false

open Tm Go.Sort Go.Proofs Go.ChangeMaps
mutual
def bgT : Tm → Int → Int → Int
  | .mk n s L, d, i => bgL L (d - 1) (if d = 0 ∨ 100 < n.size ∨ 100 < s.size ∨ 40 < L.length then -1 else i - 1)
def bgL : List Tm → Int → Int → Int
  | [], _, i => i
  | x :: L, d, i => if 0 ≤ i then bgL L d (bgT x d i) else i
end
theorem bgT_eq (n s : By) (L : List Tm) (d i : Int) : bgT (.mk n s L) d i = bgL L (d - 1) (if d = 0 ∨ 100 < n.size ∨ 100 < s.size ∨ 40 < L.length then -1 else i - 1) := by
  conv => lhs; unfold bgT
theorem bgL_nil (d i : Int) : bgL [] d i = i := by unfold bgL; rfl
theorem bgL_cons (x : Tm) (L : List Tm) (d i : Int) : bgL (x :: L) d i = if 0 ≤ i then bgL L d (bgT x d i) else i := by
  conv => lhs; unfold bgL
theorem bgL_neg (L : List Tm) (d i : Int) (h : i < 0) : bgL L d i = i := by
  cases L with
  | nil => exact bgL_nil d i
  | cons x L => rw [bgL_cons, if_neg (by omega)]
theorem bgT_le : ∀ (t : Tm) (d i : Int), (0 ≤ bgT t d i → (t.size : Int) + bgT t d i ≤ i) ∧ (0 ≤ i → -1 ≤ bgT t d i ∧ bgT t d i ≤ i) ∧ (i < 0 → bgT t d i = i - 1 ∨ bgT t d i = -1) := by
  refine Tm.ind (fun n s L ih => ?_)
  intro d i
  have key : ∀ (M : List Tm), (∀ x ∈ M, ∀ (d i : Int), (0 ≤ bgT x d i → (x.size : Int) + bgT x d i ≤ i) ∧ (0 ≤ i → -1 ≤ bgT x d i ∧ bgT x d i ≤ i) ∧ (i < 0 → bgT x d i = i - 1 ∨ bgT x d i = -1)) → ∀ (d i : Int), (0 ≤ bgL M d i → (sizes M : Int) + bgL M d i ≤ i) ∧ (0 ≤ i → -1 ≤ bgL M d i ∧ bgL M d i ≤ i) := by
    intro M
    induction M with
    | nil => intro _ d i; rw [bgL_nil]; exact ⟨fun _ => by simp [sizes], fun h => ⟨by omega, Int.le_refl _⟩⟩
    | cons x M ihM =>
      intro hx d i
      have h1 := hx x (List.mem_cons_self ..) d i
      have h2 := ihM (fun y hy => hx y (List.mem_cons_of_mem _ hy)) d (bgT x d i)
      rw [bgL_cons]
      have hsz : sizes (x :: M) = x.size + sizes M := by rw [sizes]
      by_cases hi : 0 ≤ i
      · rw [if_pos hi]
        have h3 := h1.2.1 hi
        by_cases hb : 0 ≤ bgT x d i
        · have h4 := h2.2 hb
          refine ⟨fun h => ?_, fun _ => ⟨h4.1, by omega⟩⟩
          have h5 := h1.1 hb
          have h6 := h2.1 h
          rw [hsz]
          omega
        · rw [bgL_neg _ _ _ (by omega)]
          exact ⟨fun h => absurd h hb, fun _ => ⟨h3.1, h3.2⟩⟩
      · rw [if_neg hi]
        exact ⟨fun h => absurd h hi, fun h => absurd h hi⟩
  rw [bgT_eq]
  have hk := key L ih (d - 1)
  by_cases hc : d = 0 ∨ 100 < n.size ∨ 100 < s.size ∨ 40 < L.length
  · rw [if_pos hc, bgL_neg _ _ _ (by omega)]
    exact ⟨fun h => absurd h (by omega), fun h => ⟨Int.le_refl _, by omega⟩, fun _ => .inr rfl⟩
  · rw [if_neg hc]
    have h1 := hk (i - 1)
    refine ⟨fun h => ?_, fun h => ?_, fun h => ?_⟩
    · have h2 := h1.1 h
      rw [size_eq]
      simp only [Tm.kids]
      omega
    · by_cases h0 : 0 ≤ i - 1
      · have h2 := h1.2 h0; exact ⟨h2.1, by omega⟩
      · rw [bgL_neg _ _ _ (by omega)]; exact ⟨by omega, by omega⟩
    · rw [bgL_neg _ _ _ (by omega)]; exact .inl rfl
theorem bgT_small : ∀ (t : Tm) (d i : Int), (t.size : Int) ≤ i → (t.depth : Int) ≤ d → (∀ x ∈ sbts t, x.name.size ≤ 100 ∧ x.sort.size ≤ 100 ∧ x.kids.length ≤ 40) → bgT t d i = i - (t.size : Int) := by
  refine Tm.ind (fun n s L ih => ?_)
  intro d i h1 h2 h3
  have key : ∀ (M : List Tm), (∀ x ∈ M, ∀ (d i : Int), (x.size : Int) ≤ i → (x.depth : Int) ≤ d → (∀ y ∈ sbts x, y.name.size ≤ 100 ∧ y.sort.size ≤ 100 ∧ y.kids.length ≤ 40) → bgT x d i = i - (x.size : Int)) → (∀ x ∈ M, ∀ y ∈ sbts x, y.name.size ≤ 100 ∧ y.sort.size ≤ 100 ∧ y.kids.length ≤ 40) → ∀ (d i : Int), (sizes M : Int) ≤ i → (depths M : Int) ≤ d → bgL M d i = i - (sizes M : Int) := by
    intro M
    induction M with
    | nil => intro _ _ d i _ _; rw [bgL_nil]; simp [sizes]
    | cons x M ihM =>
      intro hx hs d i h1 h2
      have hsz : sizes (x :: M) = x.size + sizes M := by rw [sizes]
      have hdz : depths (x :: M) = max x.depth (depths M) := by rw [depths]
      rw [hsz] at h1 ⊢
      rw [hdz] at h2
      rw [bgL_cons, if_pos (by omega), hx x (List.mem_cons_self ..) d i (by omega) (by omega) (hs x (List.mem_cons_self ..)), ihM (fun y hy => hx y (List.mem_cons_of_mem _ hy)) (fun y hy => hs y (List.mem_cons_of_mem _ hy)) d _ (by omega) (by omega)]
      omega
  have h4 := h3 _ (mem_sbts_self _)
  simp only [Tm.name, Tm.sort, Tm.kids] at h4
  rw [size_eq, depth_eq] at *
  simp only [Tm.kids] at *
  rw [bgT_eq, if_neg (by omega), key L ih (fun x hx y hy => h3 y (mem_sbts_kid (t := .mk n s L) hx hy)) (d - 1) (i - 1) (by omega) (by omega)]
  omega
set_option maxRecDepth 100000 in
set_option maxHeartbeats 2000000 in
theorem walkB_x : ∀ (t : Tm) (v : Value) (S : Nat → Prop) (q r : Nat) (w : World) (d i : Int), TmR S w t v → ¬ S q → (∀ k, S k → k < w.heap.size) → w.heap[q]? = some (.cells #[.int .i64 i] 3 (0, 0)) → w.cell? ⟨r, 0, none⟩ = some (.func (.func 45) #[] #[.pointer (some ⟨q, 0, none⟩), .pointer (some ⟨r, 0, none⟩)]) → r ≠ q → 0 ≤ d → d ≤ 80 → -1000 ≤ i → i ≤ 1100 →
    Calls Tryz.prog 45 #[v, .int .i64 d, .pointer (some ⟨q, 0, none⟩), .pointer (some ⟨r, 0, none⟩)] w fun e w' => e = .returned (.tuple #[]) ∧ FwP q w w' (bgT t d i) := by
  refine Tm.ind (fun n s L ih => ?_)
  intro v S q r w d i hT hq hS hc hr hrq hd0 hd1 hi0 hi1
  obtain ⟨a, cap, rfl, hT⟩ := hT
  dsimp only [tV, Tm.name, Tm.sort, Tm.kids] at hT ⊢
  obtain ⟨V, hV⟩ : ∃ V, bgT (.mk n s L) d i = V := ⟨_, rfl⟩
  rw [hV]
  have HV := Lib.hid hV
  have HTL := Lib.hid hT
  have HIH := Lib.hid ih
  have HQ := Lib.hid hq
  have HSS := Lib.hid hS
  have hqs : q < w.heap.size := (Array.getElem?_eq_some_iff.1 hc).1
  have HQS := Lib.hid hqs
  have HRQ := Lib.hid hrq
  have HR := Lib.hid hr
  have HE0 := Lib.hid ((Upd.refl (fun _ => False) w).alloc (.cells #[.string n, .string s, .slice a L.length cap] 24))
  have HB2 := Lib.hid (alloc0 w (.cells #[.string n, .string s, .slice a L.length cap] 24))
  have HC := Lib.hid (HE0.out.heap hc (fun h => h))
  have HZ0 : Hid (w.heap.size + 1 ≤ (w.alloc (.cells #[.string n, .string s, .slice a L.length cap] 24)).heap.size) := Lib.hid (by simp)
  have c0 := cellRow HC.out 0 (.int .i64 i) rfl
  have f0 := fun j => frozenRow HC.out j
  clear ih hT hq hS hc hV hrq hr hqs
  go_enter Tryz.func45, Tryz.ntmps45
  go_upto_region 2 with fail
  generalize w.alloc (.cells #[.string n, .string s, .slice a L.length cap] 24) = w1 at *
  have hb4 := setBlock HC.out 0 (.int .i64 (i - 1))
  have HQ4 : Hid ((w1.setCell ⟨q, 0, none⟩ (.int .i64 (i - 1))).heap[q]? = some (.cells #[.int .i64 (i - 1)] 3 (0, 0))) := Lib.hid (by simpa using hb4)
  have HX4 := Lib.hid ((Upd.refl (fun k => k = q) w1).setCell (p := ⟨q, 0, none⟩) (.inl rfl) (.int .i64 (i - 1)))
  have HU4 : Hid (Upd (fun k => k = q) w (w1.setCell ⟨q, 0, none⟩ (.int .i64 (i - 1)))) := Lib.hid ((HE0.out.mono (fun _ _ h => h.elim)).trans HX4.out)
  have HB24 := Lib.hid (HX4.out.heap HB2.out (by have := HQS.out; omega))
  have HS4 : Hid (w.heap.size + 1 ≤ (w1.setCell ⟨q, 0, none⟩ (.int .i64 (i - 1))).heap.size) := Lib.hid (Nat.le_trans HZ0.out HX4.out.size)
  generalize (w1.setCell ⟨q, 0, none⟩ (.int .i64 (i - 1))) = w4 at *
  clear hb4 c0 f0 HC HB2 HX4 HZ0
  have c0 := cellRow HQ4.out 0 (.int .i64 (i - 1)) rfl
  have f0 := fun j => frozenRow HQ4.out j
  have b0 := cellRow HB24.out 0 (.string n) rfl
  have b1 := cellRow HB24.out 1 (.string s) rfl
  have b2 := cellRow HB24.out 2 (.slice a L.length cap) rfl
  by_cases e1 : d = 0
  · obtain rfl : V = -1 := by rw [← HV.out, bgT_eq, if_pos (.inl e1), bgL_neg _ _ _ (by omega)]
    have t1 : (d == 0) = true := by rw [e1]; rfl
    have hb5 := setBlock HQ4.out 0 (.int .i64 (-1))
    have HQ5 : Hid ((w4.setCell ⟨q, 0, none⟩ (.int .i64 (-1))).heap[q]? = some (.cells #[.int .i64 (-1)] 3 (0, 0))) := Lib.hid (by simpa using hb5)
    have HX5 := Lib.hid ((Upd.refl (fun k => k = q) w4).setCell (p := ⟨q, 0, none⟩) (.inl rfl) (.int .i64 (-1)))
    have HU5 : Hid (Upd (fun k => k = q) w (w4.setCell ⟨q, 0, none⟩ (.int .i64 (-1)))) := Lib.hid (HU4.out.trans HX5.out)
    have HB25 := Lib.hid (HX5.out.heap HB24.out (by have := HQS.out; omega))
    clear hb5 HX5 e1
    go_upto_region 5 with fail
    generalize w4.setCell ⟨q, 0, none⟩ (.int .i64 (-1)) = w5 at *
    have c1 := cellRow HQ5.out 0 (.int .i64 (-1)) rfl
    have d0 := cellRow HB25.out 0 (.string n) rfl
    have d1 := cellRow HB25.out 1 (.string s) rfl
    have d2 := cellRow HB25.out 2 (.slice a L.length cap) rfl
    go_loopg [6] 0 (fun gk iv wr => iv = .int .i64 0 ∧ w5 = wr)
    case atStart => exact ⟨rfl, rfl⟩
    case round =>
      obtain ⟨rfl, rfl⟩ := hrel
      by_cases hl0 : 0 < L.length
      · have y1 : decide ((0 : Int) < (L.length : Int)) = true := decide_eq_true (by omega)
        have y1' : (0 : Int) < (L.length : Int) := by omega
        go_wp2_with fail
        go_end0
        exact ⟨rfl, HU5.out, HQ5.out⟩
      · have y1 : decide ((0 : Int) < (L.length : Int)) = false := decide_eq_false (by omega)
        have y1' : ¬ (0 : Int) < (L.length : Int) := by omega
        go_wp2_with fail
        go_end0
        exact ⟨rfl, HU5.out, HQ5.out⟩
  have t1 : (d == 0) = false := beq_eq_false_iff_ne.2 e1
  by_cases e2 : 100 < n.size
  · obtain rfl : V = -1 := by rw [← HV.out, bgT_eq, if_pos (.inr (.inl e2)), bgL_neg _ _ _ (by omega)]
    have t2 : decide ((100 : Int) < (n.size : Int)) = true := decide_eq_true (by omega)
    have t2' : (100 : Int) < (n.size : Int) := by omega
    have hb5 := setBlock HQ4.out 0 (.int .i64 (-1))
    have HQ5 : Hid ((w4.setCell ⟨q, 0, none⟩ (.int .i64 (-1))).heap[q]? = some (.cells #[.int .i64 (-1)] 3 (0, 0))) := Lib.hid (by simpa using hb5)
    have HX5 := Lib.hid ((Upd.refl (fun k => k = q) w4).setCell (p := ⟨q, 0, none⟩) (.inl rfl) (.int .i64 (-1)))
    have HU5 : Hid (Upd (fun k => k = q) w (w4.setCell ⟨q, 0, none⟩ (.int .i64 (-1)))) := Lib.hid (HU4.out.trans HX5.out)
    have HB25 := Lib.hid (HX5.out.heap HB24.out (by have := HQS.out; omega))
    clear hb5 HX5 e2
    go_upto_region 5 with fail
    generalize w4.setCell ⟨q, 0, none⟩ (.int .i64 (-1)) = w5 at *
    have c1 := cellRow HQ5.out 0 (.int .i64 (-1)) rfl
    have d0 := cellRow HB25.out 0 (.string n) rfl
    have d1 := cellRow HB25.out 1 (.string s) rfl
    have d2 := cellRow HB25.out 2 (.slice a L.length cap) rfl
    go_loopg [6] 0 (fun gk iv wr => iv = .int .i64 0 ∧ w5 = wr)
    case atStart => exact ⟨rfl, rfl⟩
    case round =>
      obtain ⟨rfl, rfl⟩ := hrel
      by_cases hl0 : 0 < L.length
      · have y1 : decide ((0 : Int) < (L.length : Int)) = true := decide_eq_true (by omega)
        have y1' : (0 : Int) < (L.length : Int) := by omega
        go_wp2_with fail
        go_end0
        exact ⟨rfl, HU5.out, HQ5.out⟩
      · have y1 : decide ((0 : Int) < (L.length : Int)) = false := decide_eq_false (by omega)
        have y1' : ¬ (0 : Int) < (L.length : Int) := by omega
        go_wp2_with fail
        go_end0
        exact ⟨rfl, HU5.out, HQ5.out⟩
  have t2 : decide ((100 : Int) < (n.size : Int)) = false := decide_eq_false (by omega)
  have t2' : ¬ (100 : Int) < (n.size : Int) := by omega
  by_cases e3 : 100 < s.size
  · obtain rfl : V = -1 := by rw [← HV.out, bgT_eq, if_pos (.inr (.inr (.inl e3))), bgL_neg _ _ _ (by omega)]
    have t3 : decide ((100 : Int) < (s.size : Int)) = true := decide_eq_true (by omega)
    have t3' : (100 : Int) < (s.size : Int) := by omega
    have hb5 := setBlock HQ4.out 0 (.int .i64 (-1))
    have HQ5 : Hid ((w4.setCell ⟨q, 0, none⟩ (.int .i64 (-1))).heap[q]? = some (.cells #[.int .i64 (-1)] 3 (0, 0))) := Lib.hid (by simpa using hb5)
    have HX5 := Lib.hid ((Upd.refl (fun k => k = q) w4).setCell (p := ⟨q, 0, none⟩) (.inl rfl) (.int .i64 (-1)))
    have HU5 : Hid (Upd (fun k => k = q) w (w4.setCell ⟨q, 0, none⟩ (.int .i64 (-1)))) := Lib.hid (HU4.out.trans HX5.out)
    have HB25 := Lib.hid (HX5.out.heap HB24.out (by have := HQS.out; omega))
    clear hb5 HX5 e3
    go_upto_region 5 with fail
    generalize w4.setCell ⟨q, 0, none⟩ (.int .i64 (-1)) = w5 at *
    have c1 := cellRow HQ5.out 0 (.int .i64 (-1)) rfl
    have d0 := cellRow HB25.out 0 (.string n) rfl
    have d1 := cellRow HB25.out 1 (.string s) rfl
    have d2 := cellRow HB25.out 2 (.slice a L.length cap) rfl
    go_loopg [6] 0 (fun gk iv wr => iv = .int .i64 0 ∧ w5 = wr)
    case atStart => exact ⟨rfl, rfl⟩
    case round =>
      obtain ⟨rfl, rfl⟩ := hrel
      by_cases hl0 : 0 < L.length
      · have y1 : decide ((0 : Int) < (L.length : Int)) = true := decide_eq_true (by omega)
        have y1' : (0 : Int) < (L.length : Int) := by omega
        go_wp2_with fail
        go_end0
        exact ⟨rfl, HU5.out, HQ5.out⟩
      · have y1 : decide ((0 : Int) < (L.length : Int)) = false := decide_eq_false (by omega)
        have y1' : ¬ (0 : Int) < (L.length : Int) := by omega
        go_wp2_with fail
        go_end0
        exact ⟨rfl, HU5.out, HQ5.out⟩
  have t3 : decide ((100 : Int) < (s.size : Int)) = false := decide_eq_false (by omega)
  have t3' : ¬ (100 : Int) < (s.size : Int) := by omega
  by_cases e4 : 40 < L.length
  · obtain rfl : V = -1 := by rw [← HV.out, bgT_eq, if_pos (.inr (.inr (.inr e4))), bgL_neg _ _ _ (by omega)]
    have t4 : decide ((40 : Int) < (L.length : Int)) = true := decide_eq_true (by omega)
    have t4' : (40 : Int) < (L.length : Int) := by omega
    have hb5 := setBlock HQ4.out 0 (.int .i64 (-1))
    have HQ5 : Hid ((w4.setCell ⟨q, 0, none⟩ (.int .i64 (-1))).heap[q]? = some (.cells #[.int .i64 (-1)] 3 (0, 0))) := Lib.hid (by simpa using hb5)
    have HX5 := Lib.hid ((Upd.refl (fun k => k = q) w4).setCell (p := ⟨q, 0, none⟩) (.inl rfl) (.int .i64 (-1)))
    have HU5 : Hid (Upd (fun k => k = q) w (w4.setCell ⟨q, 0, none⟩ (.int .i64 (-1)))) := Lib.hid (HU4.out.trans HX5.out)
    have HB25 := Lib.hid (HX5.out.heap HB24.out (by have := HQS.out; omega))
    clear hb5 HX5 e4
    go_upto_region 5 with fail
    generalize w4.setCell ⟨q, 0, none⟩ (.int .i64 (-1)) = w5 at *
    have c1 := cellRow HQ5.out 0 (.int .i64 (-1)) rfl
    have d0 := cellRow HB25.out 0 (.string n) rfl
    have d1 := cellRow HB25.out 1 (.string s) rfl
    have d2 := cellRow HB25.out 2 (.slice a L.length cap) rfl
    go_loopg [6] 0 (fun gk iv wr => iv = .int .i64 0 ∧ w5 = wr)
    case atStart => exact ⟨rfl, rfl⟩
    case round =>
      obtain ⟨rfl, rfl⟩ := hrel
      by_cases hl0 : 0 < L.length
      · have y1 : decide ((0 : Int) < (L.length : Int)) = true := decide_eq_true (by omega)
        have y1' : (0 : Int) < (L.length : Int) := by omega
        go_wp2_with fail
        go_end0
        exact ⟨rfl, HU5.out, HQ5.out⟩
      · exfalso
        omega
  have t4 : decide ((40 : Int) < (L.length : Int)) = false := decide_eq_false (by omega)
  have t4' : ¬ (40 : Int) < (L.length : Int) := by omega
  have HVL : Hid (bgL L (d - 1) (i - 1) = V) := Lib.hid (by rw [← HV.out, bgT_eq, if_neg (by omega)])
  have hL40 : L.length ≤ 40 := by omega
  have HD := Lib.hid (show 0 ≤ d - 1 ∧ d - 1 ≤ 80 by omega)
  clear e1 e2 e3 e4
  go_upto_region 5 with fail
  clear t1 t2 t2' t3 t3' t4 t4' c0 f0 b0 b1 b2
  go_loopg [6] L.length (fun gk iv wr => ∃ (k : Nat) (j : Int), iv = .int .i64 (k : Int) ∧ gk = L.length - k ∧ k ≤ L.length ∧ -1001 ≤ j ∧ j ≤ 1100 ∧ Hid (Upd (fun k => k = q) w wr) ∧ Hid (wr.heap[q]? = some (.cells #[.int .i64 j] 3 (0, 0))) ∧ Hid (wr.heap[w.heap.size]? = some (.cells #[.string n, .string s, .slice a L.length cap] 24 (0, 0))) ∧ Hid (bgL (L.drop k) (d - 1) j = V))
  case atStart => exact ⟨0, i - 1, rfl, rfl, Nat.zero_le _, by omega, by omega, HU4, HQ4, HB24, HVL⟩
  case round =>
    clear HU4 HQ4 HB24 HVL HS4
    obtain ⟨k, j, rfl, rfl, hk, hj0, hj1, HU, HQQ, HB, HVK⟩ := hrel
    have c0 := cellRow HQQ.out 0 (.int .i64 j) rfl
    have b0 := cellRow HB.out 0 (.string n) rfl
    have b1 := cellRow HB.out 1 (.string s) rfl
    have b2 := cellRow HB.out 2 (.slice a L.length cap) rfl
    by_cases hlt : k < L.length
    · have z0 : (0 : Int) ≤ (k : Int) := by omega
      have z1 : (k : Int) < (L.length : Int) := by omega
      have z2 : decide ((k : Int) < (L.length : Int)) = true := decide_eq_true z1
      have z2' : decide (k < L.length) = true := decide_eq_true hlt
      have hvk := HVK.out
      rw [tg_drop L k hlt, bgL_cons] at hvk
      by_cases hj : 0 ≤ j
      · have z3 : decide ((0 : Int) ≤ j) = true := decide_eq_true hj
        rw [if_pos hj] at hvk
        obtain ⟨g, off, hga, _, hat⟩ := (HTL.out.kept HU.out (fun k hk e => HQ.out (e ▸ hk))).at_ (by omega)
        subst hga
        obtain ⟨xa, xc, q0, q1, q2, hkid⟩ := hat k hlt
        rw [← Nat.add_assoc] at q1 q2
        have HIX := Lib.hid (fun W (hW : Ext wr W) => HIH.out (tg L k) (tg_mem L k hlt) _ S q r W (d - 1) j ⟨xa, xc, rfl, hkid.ext hW⟩ HQ.out (fun k hk => Nat.lt_of_lt_of_le (HSS.out k hk) (Nat.le_trans HU.out.size hW.size)) (hW.heap HQQ.out (fun h => h)) (hW.cell (HU.out.cell HR.out HRQ.out) (fun h => h)) HRQ.out HD.out.1 HD.out.2 (by omega) hj1)
        have r0 := HU.out.cell HR.out HRQ.out
        have hle := (bgT_le (tg L k) (d - 1) j).2.1 hj
        dsimp only [tV] at HIX
        obtain ⟨x, hx⟩ : ∃ x, tg L k = x := ⟨_, rfl⟩
        rw [hx] at q0 q1 q2 HIX hvk hle
        obtain ⟨j2, hj2⟩ : ∃ j2, bgT x (d - 1) j = j2 := ⟨_, rfl⟩
        rw [hj2] at HIX hvk hle
        have HV2 := Lib.hid hvk
        have HWR : Hid (Ext wr wr) := Lib.hid (Upd.refl _ _)
        have heg : ∀ args W, (callFunc 45 args).run Tryz.prog W = .ok (.enter 45 args) W := enters_of Tryz.func45 (by kernel_rfl) rfl
        clear hat hkid hx hvk hj2 HVK
        go_wp2_with fail
        go_still_tail 8, (by kernel_rfl)
        change wpList _ _ _ _ _ wr.drew
        go_wp2_with fail
        refine (HIX.out wr.drew HWR.out.drew).mono ?_
        rintro e w5 ⟨rfl, hw5, hq5⟩
        have HW5 : Hid (Upd (fun k => k = q) wr w5) := Lib.hid (((Upd.refl (fun k => k = q) wr).drewN' 1).trans hw5)
        have HQ5 := Lib.hid hq5
        clear hw5 hq5 HIX q0 q1 q2 r0 c0 b0 b1 b2
        go_wp2_with fail
        have HU5 := Lib.hid (HU.out.trans HW5.out)
        have HB5 := Lib.hid (HW5.out.heap HB.out (by have := HQS.out; omega))
        go_roundg (L.length - (k + 1))
        case measure => omega
        case rel => exact ⟨k + 1, j2, by go_num, rfl, by omega, by omega, by omega, HU5, HQ5, HB5, HV2⟩
      · have z3 : decide ((0 : Int) ≤ j) = false := decide_eq_false hj
        rw [if_neg hj] at hvk
        subst hvk
        clear HV HVK
        go_wp2_with fail
        go_end0
        exact ⟨rfl, HU.out, HQQ.out⟩
    · obtain rfl : k = L.length := by omega
      have z2 : decide ((L.length : Int) < (L.length : Int)) = false := decide_eq_false (by omega)
      have hvk := HVK.out
      rw [List.drop_length, bgL_nil] at hvk
      subst hvk
      clear HV HVK
      go_wp2_with fail
      go_end0
      exact ⟨rfl, HU.out, HQQ.out⟩

end Go.Proofs.YtjjaknmnhhfjeaaGreatDoor

/- big, zero. -/
namespace Go.Proofs.YtjjaknmnhhfjeaaGreatDoor
open Go.RowKit Go.Hw Go
set_option linter.unusedVariables false
set_option linter.unusedSimpArgs false

open Tm Go.Sort Go.Proofs Go.ChangeMaps
def bgs (L : List Tm) (i : Int) : Int := L.foldl (fun i t => bgT t 80 i) i
def bigF (L : List Tm) : Bool := decide (bgs L 1100 < 0)
theorem bgs_snoc (L : List Tm) (x : Tm) (i : Int) : bgs (L ++ [x]) i = bgT x 80 (bgs L i) := by unfold bgs; rw [List.foldl_append]; rfl
theorem bgs_bound : ∀ (L : List Tm) (i : Int), L.length ≤ 10 → -1000 + (L.length : Int) ≤ i → i ≤ 1100 → -1000 ≤ bgs L i ∧ bgs L i ≤ 1100
  | [], i, _, h0, h1 => by simp at h0; exact ⟨h0, h1⟩
  | x :: L, i, hl, h0, h1 => by
    have h2 := bgT_le x 80 i
    rw [List.length_cons] at hl h0
    have h3 : -1000 + (L.length : Int) ≤ bgT x 80 i ∧ bgT x 80 i ≤ 1100 := by
      by_cases hi : 0 ≤ i
      · have := h2.2.1 hi
        omega
      · rcases h2.2.2 (by omega) with e | e <;> omega
    exact bgs_bound L _ (by omega) h3.1 h3.2
theorem big_small {t : Tm} (h : bigF [t] = false) : t.size ≤ 1100 := by
  have h1 := of_decide_eq_false h
  unfold bgs at h1
  have h2 := (bgT_le t 80 1100).1 (by simpa using h1)
  have h3 : ¬ bgT t 80 1100 < 0 := by simpa using h1
  omega
set_option maxRecDepth 100000 in
set_option maxHeartbeats 2000000 in
theorem big_x (L : List Tm) (v : Value) (S : Nat → Prop) (w : World) (hT : TlR S w L v) (hS : ∀ k, S k → k < w.heap.size) (hl : L.length ≤ 10) :
    Calls Tryz.prog 10 #[v] w fun e w' => e = .returned (.bool (bigF L)) ∧ Ext w w' := by
  obtain ⟨a, cap, rfl⟩ := hT.shape
  obtain ⟨V, hV⟩ : ∃ V, bgs L 1100 = V := ⟨_, rfl⟩
  have hbv : bigF L = decide (V < 0) := by unfold bigF; rw [hV]
  rw [hbv]
  have HV := Lib.hid hV
  have HTL := Lib.hid hT
  have HSS := Lib.hid hS
  have HE0 := Lib.hid (((Upd.refl (fun _ => False) w).alloc (.cells #[.int .i64 1100] 3)).alloc (.cells #[.func (.func 45) #[] #[.pointer (some ⟨w.heap.size, 0, none⟩), .pointer (some ⟨w.heap.size + 1, 0, none⟩)]] 81))
  have HQ0 := Lib.hid (allocOld (alloc0 w (.cells #[.int .i64 1100] 3)) (.cells #[.func (.func 45) #[] #[.pointer (some ⟨w.heap.size, 0, none⟩), .pointer (some ⟨w.heap.size + 1, 0, none⟩)]] 81))
  have HR0 := Lib.hid (alloc_at (w.alloc (.cells #[.int .i64 1100] 3)) (.cells #[.func (.func 45) #[] #[.pointer (some ⟨w.heap.size, 0, none⟩), .pointer (some ⟨w.heap.size + 1, 0, none⟩)]] 81) (n := w.heap.size + 1) (by simp))
  have HZ0 : Hid (w.heap.size + 2 ≤ ((w.alloc (.cells #[.int .i64 1100] 3)).alloc (.cells #[.func (.func 45) #[] #[.pointer (some ⟨w.heap.size, 0, none⟩), .pointer (some ⟨w.heap.size + 1, 0, none⟩)]] 81)).heap.size) := Lib.hid (by simp)
  have heg : ∀ args W, (callFunc 45 args).run Tryz.prog W = .ok (.enter 45 args) W := enters_of Tryz.func45 (by kernel_rfl) rfl
  clear hT hS hV hbv
  go_enter Tryz.func10, Tryz.ntmps10
  go_upto_region 4 with fail
  generalize ((w.alloc (.cells #[.int .i64 1100] 3)).alloc (.cells #[.func (.func 45) #[] #[.pointer (some ⟨w.heap.size, 0, none⟩), .pointer (some ⟨w.heap.size + 1, 0, none⟩)]] 81)) = w1 at *
  go_wp2_with fail
  go_loopg [10] L.length (fun gk iv wr => ∃ k : Nat, iv = .int .i64 (k : Int) ∧ gk = L.length - k ∧ k ≤ L.length ∧ Hid (Upd (fun k => k = w.heap.size) w1 wr) ∧ Hid (wr.heap[w.heap.size]? = some (.cells #[.int .i64 (bgs (L.take k) 1100)] 3 (0, 0))) ∧ Hid (wr.heap[w.heap.size + 1]? = some (.cells #[.func (.func 45) #[] #[.pointer (some ⟨w.heap.size, 0, none⟩), .pointer (some ⟨w.heap.size + 1, 0, none⟩)]] 81 (0, 0))))
  case atStart => exact ⟨0, rfl, rfl, Nat.zero_le _, Lib.hid (Upd.refl _ _), HQ0, HR0⟩
  case round =>
    clear HQ0 HR0
    obtain ⟨k, rfl, rfl, hk, HU, HQ, HR⟩ := hrel
    have HEW : Hid (Ext w wr) := Lib.hid (HE0.out.trans' HU.out (fun j hj e => by omega))
    by_cases hlt : k < L.length
    · obtain ⟨g, off, hga, _, hat⟩ := (HTL.out.ext HEW.out).at_ (by omega)
      subst hga
      obtain ⟨xa, xc, q0, q1, q2, hkid⟩ := hat k hlt
      rw [← Nat.add_assoc] at q1 q2
      have z0 : (0 : Int) ≤ (k : Int) := by omega
      have z1 : (k : Int) < (L.length : Int) := by omega
      have z2 : decide ((k : Int) < (L.length : Int)) = true := decide_eq_true z1
      have z2' : decide (k < L.length) = true := decide_eq_true hlt
      have hbd := bgs_bound (L.take k) 1100 (by rw [List.length_take]; omega) (by rw [List.length_take]; omega) (by omega)
      have htk : bgs (L.take (k + 1)) 1100 = bgT (tg L k) 80 (bgs (L.take k) 1100) := by
        rw [← bgs_snoc]
        congr 1
        rw [List.take_add_one]
        congr 1
        unfold tg
        rw [List.getD_eq_getElem?_getD, List.getElem?_eq_getElem hlt]
        rfl
      have HTK := Lib.hid htk
      obtain ⟨x, hx⟩ : ∃ x, tg L k = x := ⟨_, rfl⟩
      rw [hx] at q0 q1 q2 hkid HTK
      obtain ⟨I, hI⟩ : ∃ I, bgs (L.take k) 1100 = I := ⟨_, rfl⟩
      rw [hI] at hbd HQ HTK
      have hX5 := (Upd.refl (fun _ => False) wr).alloc (.cells #[.string x.name, .string x.sort, .slice xa x.kids.length xc] 24)
      have HX5 := Lib.hid hX5
      have hSW : ∀ j, S j → j < w.heap.size := HSS.out
      have HWK := Lib.hid (walkB_x x (tV x (.slice xa x.kids.length xc)) S w.heap.size (w.heap.size + 1) (wr.alloc (.cells #[.string x.name, .string x.sort, .slice xa x.kids.length xc] 24)) 80 I ⟨xa, xc, rfl, hkid.ext hX5⟩ (fun h => Nat.lt_irrefl _ (hSW _ h)) (fun j hj => Nat.lt_of_lt_of_le (hSW j hj) (Nat.le_trans HEW.out.size hX5.size)) (hX5.heap HQ.out (fun h => h)) (cellRow (hX5.heap HR.out (fun h => h)) 0 _ rfl) (by omega) (by decide) (by decide) (by omega) (by omega))
      have r0 := cellRow (hX5.heap HR.out (fun h => h)) 0 (.func (.func 45) #[] #[.pointer (some ⟨w.heap.size, 0, none⟩), .pointer (some ⟨w.heap.size + 1, 0, none⟩)]) rfl
      have HB5 := Lib.hid (alloc0 wr (.cells #[.string x.name, .string x.sort, .slice xa x.kids.length xc] 24))
      have x0 := cellRow HB5.out 0 (.string x.name) rfl
      have x1 := cellRow HB5.out 1 (.string x.sort) rfl
      have x2 := cellRow HB5.out 2 (.slice xa x.kids.length xc) rfl
      have HSQ : Hid (w.heap.size + 2 ≤ w1.heap.size) := HZ0
      dsimp only [tV] at HWK
      clear hat hkid hx hI hbd htk hX5 hSW
      go_wp2_with fail
      refine HWK.out.mono ?_
      rintro e w6 ⟨rfl, hw6, hq6⟩
      have HU6 : Hid (Upd (fun k => k = w.heap.size) w1 w6) := Lib.hid (HU.out.trans ((HX5.out.mono (fun _ _ h => h.elim)).trans hw6))
      have HQ6 : Hid (w6.heap[w.heap.size]? = some (.cells #[.int .i64 (bgs (L.take (k + 1)) 1100)] 3 (0, 0))) := Lib.hid (by rw [HTK.out]; exact hq6)
      have HR6 := Lib.hid (hw6.heap (HX5.out.heap HR.out (fun h => h)) (by omega))
      clear hw6 hq6 HWK q0 q1 q2 r0 x0 x1 x2
      go_wp2_with fail
      go_roundg (L.length - (k + 1))
      case measure => omega
      case rel => exact ⟨k + 1, by go_num, rfl, by omega, HU6, HQ6, HR6⟩
    · obtain rfl : k = L.length := by omega
      have z2 : decide ((L.length : Int) < (L.length : Int)) = false := decide_eq_false (by omega)
      have hq := HQ.out
      rw [List.take_length, HV.out] at hq
      have c0 := cellRow hq 0 (.int .i64 V) rfl
      clear hq HV
      go_wp2_with fail
      go_ret
      exact ⟨rfl, HEW.out⟩
end Go.Proofs.YtjjaknmnhhfjeaaGreatDoor

/- SamePath, SameTrace. -/
namespace Go.Proofs.YtjjaknmnhhfjeaaGreatDoor
open Go.RowKit Go.Hw Go
set_option linter.unusedVariables false
set_option linter.unusedSimpArgs false

open Tm Go.Sort Go.Proofs Go.ChangeMaps
end Go.Proofs.YtjjaknmnhhfjeaaGreatDoor

/- At of the reference. -/
namespace Go.Proofs.YtjjaknmnhhfjeaaGreatDoor
open Go.RowKit Go.Hw Go
set_option linter.unusedVariables false
set_option linter.unusedSimpArgs false

open Tm Go.Sort Go.Proofs Go.ChangeMaps
end Go.Proofs.YtjjaknmnhhfjeaaGreatDoor

/- Put of the reference. -/
namespace Go.Proofs.YtjjaknmnhhfjeaaGreatDoor
open Go.RowKit Go.Hw Go
set_option linter.unusedVariables false
set_option linter.unusedSimpArgs false

open Tm Go.Sort Go.Proofs Go.ChangeMaps
end Go.Proofs.YtjjaknmnhhfjeaaGreatDoor

/- Replace of the reference. -/
namespace Go.Proofs.YtjjaknmnhhfjeaaGreatDoor
open Go.RowKit Go.Hw Go Go.Sort Go.Proofs Go.ChangeMaps
set_option linter.unusedVariables false
set_option linter.unusedSimpArgs false

open Tm
end Go.Proofs.YtjjaknmnhhfjeaaGreatDoor

/- The law TermPaths. -/
namespace Go.Proofs.YtjjaknmnhhfjeaaGreatDoor
open Go.RowKit Go.Hw Go Go.Sort Go.Proofs Go.ChangeMaps
set_option linter.unusedVariables false
set_option linter.unusedSimpArgs false

open Tm
theorem nodesD_depth : ∀ (t : Tm) (d N : Nat), (∀ p ∈ nodesD d t, p.2 ≤ N) ↔ d + t.depth ≤ N + 1 := by
  refine Tm.ind (fun n s L ih => ?_)
  intro d N
  rw [nodesD_eq, depth_eq]
  simp only [Tm.kids]
  have key : ∀ (L : List Tm) (d : Nat), (∀ x ∈ L, ∀ d N, (∀ p ∈ nodesD d x, p.2 ≤ N) ↔ d + x.depth ≤ N + 1) → d ≤ N + 1 → ((∀ p ∈ nodesDs d L, p.2 ≤ N) ↔ d + depths L ≤ N + 1) := by
    intro L
    induction L with
    | nil => intro d _ hd; exact ⟨fun _ => by simpa [depths] using hd, fun _ p hp => by cases hp⟩
    | cons a L ihL =>
      intro d hx hd
      have h1 := hx a (List.mem_cons_self ..) d N
      have h2 := ihL d (fun x hx' => hx x (List.mem_cons_of_mem _ hx')) hd
      simp only [nodesDs, depths]
      constructor
      · intro h
        have g1 := h1.1 (fun p hp => h p (List.mem_append_left _ hp))
        have g2 := h2.1 (fun p hp => h p (List.mem_append_right _ hp))
        omega
      · intro h p hp
        rcases List.mem_append.1 hp with hp | hp
        · exact h1.2 (by omega) p hp
        · exact h2.2 (by omega) p hp
  constructor
  · intro h
    have h0 : d ≤ N := h _ (List.mem_cons_self ..)
    have := (key L (d + 1) ih (by omega)).1 (fun p hp => h p (List.mem_cons_of_mem _ hp))
    omega
  · intro h p hp
    rcases List.mem_cons.1 hp with e | hp
    · rw [e]; show d ≤ N; omega
    · exact (key L (d + 1) ih (by omega)).2 (by omega) p hp

theorem tl1_row {S : Nat → Prop} {W : World} {n te : Nat} {fz : Nat × Nat} {a : Tm} {ua : Value} (h : W.heap[n]? = some (.cells #[.string a.name, .string a.sort, ua] te fz)) (hn : S n) (ha : TlR S W a.kids ua) : TlR S W [a] (.slice (some ⟨n, 0, none⟩) 1 1) := by
  refine .mk _ [ua] _ rfl ?_ (fun i hi => ?_)
  · refine SlR.mk' rfl rfl (Nat.le_refl _) (fun _ => hn) (fun j hj => ?_)
    have hj3 : j < 3 := hj
    rw [Nat.zero_add, cell_of_row W n j _ _ _ h]
    rcases (by omega : j = 0 ∨ j = 1 ∨ j = 2) with rfl | rfl | rfl <;> rfl
  · obtain rfl : i = 0 := by simpa using hi
    exact ha
theorem kup {w w' : World} {L : List Tm} {v : Value} (h : TlR (fun k => k < w.heap.size) w L v) (hE : Ext w w') : TlR (fun k => k < w'.heap.size) w' L v := (h.ext hE).weaken (fun k hk => Nat.lt_of_lt_of_le hk hE.size)
theorem nul_big : bigF [nulT] = false := by decide +kernel
theorem wf_big {t : Tm} (h : wf nmB t = true) : bigF [t] = false := by
  obtain ⟨h1, h3⟩ := formed_nd (wf_formed h)
  have h2 : 1 + t.depth ≤ 60 + 1 := (nodesD_depth t 1 60).1 (fun p hp => by
    have h4 := ((formed_iff nmB t).1 (wf_formed h)).2 p hp
    unfold okN at h4
    simp only [Bool.and_eq_true, Bool.or_eq_true, decide_eq_true_eq] at h4
    exact h4.1)
  unfold bigF bgs
  show decide (bgT t 80 1100 < 0) = false
  rw [bgT_small t 80 1100 (by omega) (by omega) (fun x hx => by
    obtain ⟨g1, g2, g3⟩ := h3 x hx
    have k1 := nm_size g1
    refine ⟨by omega, ?_, by omega⟩
    rcases g3 with g3 | g3
    · rw [g3]; decide
    · have := nm_size g3.1; omega)]
  exact decide_eq_false (by omega)
end Go.Proofs.YtjjaknmnhhfjeaaGreatDoor

/- Integers of the lexer: pure. -/
namespace Go.Proofs.YtjjaknmnhhfjeaaGreatDoor
open Go.RowKit Go.Hw Go Go.Sort Go.Proofs Go.ChangeMaps
set_option linter.unusedVariables false
set_option linter.unusedSimpArgs false

open Tm
def digB (c : UInt8) : Bool := digN c.toNat
def valD (l : List UInt8) (acc : Nat) : Nat := l.foldl (fun a c => a * 10 + (c.toNat - 48)) acc
def hdI (s : By) : Prop := s.size = 0 ∨ (1 < s.size ∧ byt s 0 = 48)
instance (s : By) : Decidable (hdI s) := inferInstanceAs (Decidable (_ ∨ _))
def atE (e : Lib.NumEnd Int) : Int × Bool := match e with
  | .ok v => (v, decide (v ≤ 1099511627776))
  | _ => (9223372036854775807, false)
def iP (s : By) : Int × Bool := if hdI s then (0, false) else if s.data.toList.all digB = false then (0, false) else atE (Lib.atoiAll s.data.toList)
def iR (s : By) : Int × Bool := if hdI s then (0, false) else if s.data.toList.all digB = false then (0, false) else if valD s.data.toList 0 ≤ 1099511627776 then ((valD s.data.toList 0 : Nat), true) else (0, false)
theorem valD_cons (c : UInt8) (l : List UInt8) (a : Nat) : valD (c :: l) a = valD l (a * 10 + (c.toNat - 48)) := by
  unfold valD; rw [List.foldl_cons]
theorem valD_ge : ∀ (l : List UInt8) (a : Nat), a ≤ valD l a
  | [], a => Nat.le_refl _
  | c :: l, a => by
    have := valD_ge l (a * 10 + (c.toNat - 48))
    rw [valD_cons]
    refine Nat.le_trans ?_ this
    generalize c.toNat - 48 = d
    omega
theorem valD_snoc (l : List UInt8) (c : UInt8) (a : Nat) : valD (l ++ [c]) a = valD l a * 10 + (c.toNat - 48) := by
  unfold valD; rw [List.foldl_append]; rfl
theorem parse_digs : ∀ (l : List UInt8) (acc : Nat), l.all digB = true → Lib.parseUint10 acc l = .ok (valD l acc) ∨ (Lib.parseUint10 acc l = .range ∧ 1099511627776 < valD l acc)
  | [], acc, _ => .inl rfl
  | c :: t, acc, hd => by
    rw [List.all_cons, Bool.and_eq_true] at hd
    obtain ⟨h1, h2⟩ := hd
    have h4 : 48 ≤ c.toNat ∧ c.toNat ≤ 57 := by
      unfold digB digN at h1
      rw [Bool.and_eq_true, decide_eq_true_eq, decide_eq_true_eq] at h1
      exact h1
    rw [valD_cons]
    have hg := valD_ge t (acc * 10 + (c.toNat - 48))
    unfold Lib.parseUint10
    rw [if_pos h4]
    by_cases h5 : 1844674407370955162 ≤ acc
    · rw [if_pos h5]
      exact .inr ⟨rfl, by omega⟩
    rw [if_neg h5]
    by_cases h6 : 18446744073709551616 ≤ acc * 10 + (c.toNat - 48)
    · rw [if_pos h6]
      exact .inr ⟨rfl, by omega⟩
    rw [if_neg h6]
    exact parse_digs t _ h2
theorem atoi_digs (l : List UInt8) (hl : l ≠ []) (hd : l.all digB = true) : Lib.atoiAll l = .ok (valD l 0 : Nat) ∨ (Lib.atoiAll l = .range ∧ 1099511627776 < valD l 0) := by
  cases l with
  | nil => exact absurd rfl hl
  | cons c r =>
    have h1 : digB c = true := by rw [List.all_cons, Bool.and_eq_true] at hd; exact hd.1
    have h4 : 48 ≤ c.toNat ∧ c.toNat ≤ 57 := by
      unfold digB digN at h1
      rw [Bool.and_eq_true, decide_eq_true_eq, decide_eq_true_eq] at h1
      exact h1
    rw [Lib.atoiAll_plain c r (by omega) (by omega)]
    unfold Lib.parseMag
    rw [if_neg (by simp)]
    rcases parse_digs (c :: r) 0 hd with h | ⟨h, h2⟩
    · rw [h]
      unfold Lib.signless
      by_cases h5 : 9223372036854775808 ≤ valD (c :: r) 0
      · simp only [if_pos h5]
        exact .inr ⟨trivial, by omega⟩
      · simp only [if_neg h5]
        exact .inl trivial
    · rw [h]
      exact .inr ⟨rfl, h2⟩
theorem iP_iR (s : By) : (iP s).2 = (iR s).2 ∧ ((iR s).2 = true → (iP s).1 = (iR s).1) := by
  unfold iP iR
  by_cases h1 : hdI s
  · rw [if_pos h1, if_pos h1]; exact ⟨rfl, fun _ => rfl⟩
  rw [if_neg h1, if_neg h1]
  cases h2 : s.data.toList.all digB with
  | false => rw [if_pos rfl, if_pos rfl]; exact ⟨rfl, fun _ => rfl⟩
  | true =>
    rw [if_neg (by decide), if_neg (by decide)]
    have hne : s.data.toList ≠ [] := fun e => h1 (.inl (by show s.data.toList.length = 0; rw [e]; rfl))
    rcases atoi_digs _ hne h2 with h | ⟨h, h3⟩
    · rw [h]
      by_cases h4 : valD s.data.toList 0 ≤ 1099511627776
      · rw [if_pos h4]
        exact ⟨decide_eq_true (by omega), fun _ => rfl⟩
      · rw [if_neg h4]
        exact ⟨decide_eq_false (by omega), fun h => (by cases h)⟩
    · rw [h, if_neg (by omega)]
      exact ⟨rfl, fun h => (by cases h)⟩
theorem wd_iP (s : By) : (wdF iP s).ok = (wdF iR s).ok ∧ ((wdF iR s).ok = true → wdF iP s = wdF iR s) := by
  unfold wdF
  by_cases h1 : kwB s = true
  · rw [if_pos h1, if_pos h1]; exact ⟨rfl, fun _ => rfl⟩
  rw [if_neg h1, if_neg h1]
  by_cases h2 : nmB s = true
  · rw [if_pos h2, if_pos h2]; exact ⟨rfl, fun _ => rfl⟩
  rw [if_neg h2, if_neg h2]
  obtain ⟨h3, h4⟩ := iP_iR s
  exact ⟨h3, fun h => by rw [h3, h4 h]⟩
theorem tkF_congr {a b : By → Wd} (h : ∀ x, (a x).ok = (b x).ok ∧ ((b x).ok = true → a x = b x)) (s : By) : ∀ (n i ln bg : Nat) (l : List Tok), tkF a s n i ln bg l = tkF b s n i ln bg l
  | 0, _, _, _, _ => rfl
  | n + 1, i, ln, bg, l => by
    have ih := tkF_congr h s n
    rw [tkF, tkF]
    obtain ⟨h1, h2⟩ := h (s.extract i (wdE s s.size i))
    by_cases c1 : ¬ i < s.size
    · rw [if_pos c1, if_pos c1]
    rw [if_neg c1, if_neg c1]
    by_cases c2 : clsN (byt s i) = 1
    · rw [if_pos c2, if_pos c2, ih, ih]
    rw [if_neg c2, if_neg c2]
    by_cases c3 : byt s i = 35
    · rw [if_pos c3, if_pos c3, ih]
    rw [if_neg c3, if_neg c3]
    by_cases c4 : 2 ≤ clsN (byt s i)
    · rw [if_pos c4, if_pos c4]
      by_cases c5 : (b (s.extract i (wdE s s.size i))).ok = true
      · rw [h2 c5, ih]
      · rw [if_neg c5, if_neg (by rw [h1]; exact c5)]
    · rw [if_neg c4, if_neg c4, ih]
theorem tokF_iP (s : By) : tokF (wdF iP) s = tokF (wdF iR) s := by
  unfold tokF
  rw [tkF_congr wd_iP]
def psF (s : By) : Tm × (Int × Int) × Int := match tokF (wdF iR) s with
  | .full => (nulT, (0, 0), 4)
  | .bad ln col => (nulT, (ln, col), 7)
  | .ok l => match pT l l.length 0 with
    | .bad j => (nulT, ((tk l j).line, (tk l j).col), if (tk l j).kind = 5 then 8 else 7)
    | .ok t j => if (tk l j).kind ≠ 5 then (nulT, ((tk l j).line, (tk l j).col), 7) else if formed nmB t = false then (nulT, (0, 0), 4) else if (sortsT t).isSome = true then (t, (0, 0), 0) else (nulT, (0, 0), 11)

end Go.Proofs.YtjjaknmnhhfjeaaGreatDoor
