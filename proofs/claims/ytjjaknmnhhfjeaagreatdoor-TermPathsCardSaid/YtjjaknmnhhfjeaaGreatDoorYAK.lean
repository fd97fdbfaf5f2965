/- The texts N51 N52 N59 N60 N62 Y17 Y18, one behind the other. -/
import Derived.Test.YtjjaknmnhhfjeaaGreatDoorYAJ
import Derived.Test.YtjjaknmnhhfjeaaGreatDoorYAG
/- big, of law06. -/
namespace Go.Proofs.YtjjaknmnhhfjeaaGreatDoor
open Go.RowKit Go.Hw Go
set_option linter.unusedVariables false
set_option linter.unusedSimpArgs false

open Tm Go.Sort Go.Proofs Go.ChangeMaps
mutual
def bgT : Tm → Int → Int → Int
  | .mk n s L, d, i => bgL L (d - 1) (if d = 0 ∨ 100 < n.size ∨ 100 < s.size ∨ 40 < L.length then -1 else i - 1)
def bgL : List Tm → Int → Int → Int
  | [], _, i => i
  | x :: L, d, i => if 0 ≤ i then bgL L d (bgT x d i) else i
end
theorem bgT_eq (n s : By) (L : List Tm) (d i : Int) : bgT (.mk n s L) d i = bgL L (d - 1) (if d = 0 ∨ 100 < n.size ∨ 100 < s.size ∨ 40 < L.length then -1 else i - 1) := by
  conv => lhs; unfold bgT
theorem bgL_nil (d i : Int) : bgL [] d i = i := by unfold bgL; rfl
theorem bgL_cons (x : Tm) (L : List Tm) (d i : Int) : bgL (x :: L) d i = if 0 ≤ i then bgL L d (bgT x d i) else i := by
  conv => lhs; unfold bgL
theorem bgL_neg (L : List Tm) (d i : Int) (h : i < 0) : bgL L d i = i := by
  cases L with
  | nil => exact bgL_nil d i
  | cons x L => rw [bgL_cons, if_neg (by omega)]
theorem bgT_le : ∀ (t : Tm) (d i : Int), (0 ≤ bgT t d i → (t.size : Int) + bgT t d i ≤ i) ∧ (0 ≤ i → -1 ≤ bgT t d i ∧ bgT t d i ≤ i) ∧ (i < 0 → bgT t d i = i - 1 ∨ bgT t d i = -1) := by
  refine Tm.ind (fun n s L ih => ?_)
  intro d i
  have key : ∀ (M : List Tm), (∀ x ∈ M, ∀ (d i : Int), (0 ≤ bgT x d i → (x.size : Int) + bgT x d i ≤ i) ∧ (0 ≤ i → -1 ≤ bgT x d i ∧ bgT x d i ≤ i) ∧ (i < 0 → bgT x d i = i - 1 ∨ bgT x d i = -1)) → ∀ (d i : Int), (0 ≤ bgL M d i → (sizes M : Int) + bgL M d i ≤ i) ∧ (0 ≤ i → -1 ≤ bgL M d i ∧ bgL M d i ≤ i) := by
    intro M
    induction M with
    | nil => intro _ d i; rw [bgL_nil]; exact ⟨fun _ => by simp [sizes], fun h => ⟨by omega, Int.le_refl _⟩⟩
    | cons x M ihM =>
      intro hx d i
      have h1 := hx x (List.mem_cons_self ..) d i
      have h2 := ihM (fun y hy => hx y (List.mem_cons_of_mem _ hy)) d (bgT x d i)
      rw [bgL_cons]
      have hsz : sizes (x :: M) = x.size + sizes M := by rw [sizes]
      by_cases hi : 0 ≤ i
      · rw [if_pos hi]
        have h3 := h1.2.1 hi
        by_cases hb : 0 ≤ bgT x d i
        · have h4 := h2.2 hb
          refine ⟨fun h => ?_, fun _ => ⟨h4.1, by omega⟩⟩
          have h5 := h1.1 hb
          have h6 := h2.1 h
          rw [hsz]
          omega
        · rw [bgL_neg _ _ _ (by omega)]
          exact ⟨fun h => absurd h hb, fun _ => ⟨h3.1, h3.2⟩⟩
      · rw [if_neg hi]
        exact ⟨fun h => absurd h hi, fun h => absurd h hi⟩
  rw [bgT_eq]
  have hk := key L ih (d - 1)
  by_cases hc : d = 0 ∨ 100 < n.size ∨ 100 < s.size ∨ 40 < L.length
  · rw [if_pos hc, bgL_neg _ _ _ (by omega)]
    exact ⟨fun h => absurd h (by omega), fun h => ⟨Int.le_refl _, by omega⟩, fun _ => .inr rfl⟩
  · rw [if_neg hc]
    have h1 := hk (i - 1)
    refine ⟨fun h => ?_, fun h => ?_, fun h => ?_⟩
    · have h2 := h1.1 h
      rw [size_eq]
      simp only [Tm.kids]
      omega
    · by_cases h0 : 0 ≤ i - 1
      · have h2 := h1.2 h0; exact ⟨h2.1, by omega⟩
      · rw [bgL_neg _ _ _ (by omega)]; exact ⟨by omega, by omega⟩
    · rw [bgL_neg _ _ _ (by omega)]; exact .inl rfl
theorem bgT_small : ∀ (t : Tm) (d i : Int), (t.size : Int) ≤ i → (t.depth : Int) ≤ d → (∀ x ∈ sbts t, x.name.size ≤ 100 ∧ x.sort.size ≤ 100 ∧ x.kids.length ≤ 40) → bgT t d i = i - (t.size : Int) := by
  refine Tm.ind (fun n s L ih => ?_)
  intro d i h1 h2 h3
  have key : ∀ (M : List Tm), (∀ x ∈ M, ∀ (d i : Int), (x.size : Int) ≤ i → (x.depth : Int) ≤ d → (∀ y ∈ sbts x, y.name.size ≤ 100 ∧ y.sort.size ≤ 100 ∧ y.kids.length ≤ 40) → bgT x d i = i - (x.size : Int)) → (∀ x ∈ M, ∀ y ∈ sbts x, y.name.size ≤ 100 ∧ y.sort.size ≤ 100 ∧ y.kids.length ≤ 40) → ∀ (d i : Int), (sizes M : Int) ≤ i → (depths M : Int) ≤ d → bgL M d i = i - (sizes M : Int) := by
    intro M
    induction M with
    | nil => intro _ _ d i _ _; rw [bgL_nil]; simp [sizes]
    | cons x M ihM =>
      intro hx hs d i h1 h2
      have hsz : sizes (x :: M) = x.size + sizes M := by rw [sizes]
      have hdz : depths (x :: M) = max x.depth (depths M) := by rw [depths]
      rw [hsz] at h1 ⊢
      rw [hdz] at h2
      rw [bgL_cons, if_pos (by omega), hx x (List.mem_cons_self ..) d i (by omega) (by omega) (hs x (List.mem_cons_self ..)), ihM (fun y hy => hx y (List.mem_cons_of_mem _ hy)) (fun y hy => hs y (List.mem_cons_of_mem _ hy)) d _ (by omega) (by omega)]
      omega
  have h4 := h3 _ (mem_sbts_self _)
  simp only [Tm.name, Tm.sort, Tm.kids] at h4
  rw [size_eq, depth_eq] at *
  simp only [Tm.kids] at *
  rw [bgT_eq, if_neg (by omega), key L ih (fun x hx y hy => h3 y (mem_sbts_kid (t := .mk n s L) hx hy)) (d - 1) (i - 1) (by omega) (by omega)]
  omega
set_option maxRecDepth 100000 in
set_option maxHeartbeats 2000000 in
theorem walkB_x : ∀ (t : Tm) (v : Value) (S : Nat → Prop) (q r : Nat) (w : World) (d i : Int), TmR S w t v → ¬ S q → (∀ k, S k → k < w.heap.size) → w.heap[q]? = some (.cells #[.int .i64 i] 3 (0, 0)) → w.cell? ⟨r, 0, none⟩ = some (.func (.func 45) #[] #[.pointer (some ⟨q, 0, none⟩), .pointer (some ⟨r, 0, none⟩)]) → r ≠ q → 0 ≤ d → d ≤ 80 → -1000 ≤ i → i ≤ 1100 →
    Calls Tryz.prog 45 #[v, .int .i64 d, .pointer (some ⟨q, 0, none⟩), .pointer (some ⟨r, 0, none⟩)] w fun e w' => e = .returned (.tuple #[]) ∧ FwP q w w' (bgT t d i) := by
  refine Tm.ind (fun n s L ih => ?_)
  intro v S q r w d i hT hq hS hc hr hrq hd0 hd1 hi0 hi1
  obtain ⟨a, cap, rfl, hT⟩ := hT
  dsimp only [tV, Tm.name, Tm.sort, Tm.kids] at hT ⊢
  obtain ⟨V, hV⟩ : ∃ V, bgT (.mk n s L) d i = V := ⟨_, rfl⟩
  rw [hV]
  have HV := Lib.hid hV
  have HTL := Lib.hid hT
  have HIH := Lib.hid ih
  have HQ := Lib.hid hq
  have HSS := Lib.hid hS
  have hqs : q < w.heap.size := (Array.getElem?_eq_some_iff.1 hc).1
  have HQS := Lib.hid hqs
  have HRQ := Lib.hid hrq
  have HR := Lib.hid hr
  have HE0 := Lib.hid ((Upd.refl (fun _ => False) w).alloc (.cells #[.string n, .string s, .slice a L.length cap] 24))
  have HB2 := Lib.hid (alloc0 w (.cells #[.string n, .string s, .slice a L.length cap] 24))
  have HC := Lib.hid (HE0.out.heap hc (fun h => h))
  have HZ0 : Hid (w.heap.size + 1 ≤ (w.alloc (.cells #[.string n, .string s, .slice a L.length cap] 24)).heap.size) := Lib.hid (by simp)
  have c0 := cellRow HC.out 0 (.int .i64 i) rfl
  have f0 := fun j => frozenRow HC.out j
  clear ih hT hq hS hc hV hrq hr hqs
  go_enter Tryz.func45, Tryz.ntmps45
  go_upto_region 2 with fail
  generalize w.alloc (.cells #[.string n, .string s, .slice a L.length cap] 24) = w1 at *
  have hb4 := setBlock HC.out 0 (.int .i64 (i - 1))
  have HQ4 : Hid ((w1.setCell ⟨q, 0, none⟩ (.int .i64 (i - 1))).heap[q]? = some (.cells #[.int .i64 (i - 1)] 3 (0, 0))) := Lib.hid (by simpa using hb4)
  have HX4 := Lib.hid ((Upd.refl (fun k => k = q) w1).setCell (p := ⟨q, 0, none⟩) (.inl rfl) (.int .i64 (i - 1)))
  have HU4 : Hid (Upd (fun k => k = q) w (w1.setCell ⟨q, 0, none⟩ (.int .i64 (i - 1)))) := Lib.hid ((HE0.out.mono (fun _ _ h => h.elim)).trans HX4.out)
  have HB24 := Lib.hid (HX4.out.heap HB2.out (by have := HQS.out; omega))
  have HS4 : Hid (w.heap.size + 1 ≤ (w1.setCell ⟨q, 0, none⟩ (.int .i64 (i - 1))).heap.size) := Lib.hid (Nat.le_trans HZ0.out HX4.out.size)
  generalize (w1.setCell ⟨q, 0, none⟩ (.int .i64 (i - 1))) = w4 at *
  clear hb4 c0 f0 HC HB2 HX4 HZ0
  have c0 := cellRow HQ4.out 0 (.int .i64 (i - 1)) rfl
  have f0 := fun j => frozenRow HQ4.out j
  have b0 := cellRow HB24.out 0 (.string n) rfl
  have b1 := cellRow HB24.out 1 (.string s) rfl
  have b2 := cellRow HB24.out 2 (.slice a L.length cap) rfl
  by_cases e1 : d = 0
  · obtain rfl : V = -1 := by rw [← HV.out, bgT_eq, if_pos (.inl e1), bgL_neg _ _ _ (by omega)]
    have t1 : (d == 0) = true := by rw [e1]; rfl
    have hb5 := setBlock HQ4.out 0 (.int .i64 (-1))
    have HQ5 : Hid ((w4.setCell ⟨q, 0, none⟩ (.int .i64 (-1))).heap[q]? = some (.cells #[.int .i64 (-1)] 3 (0, 0))) := Lib.hid (by simpa using hb5)
    have HX5 := Lib.hid ((Upd.refl (fun k => k = q) w4).setCell (p := ⟨q, 0, none⟩) (.inl rfl) (.int .i64 (-1)))
    have HU5 : Hid (Upd (fun k => k = q) w (w4.setCell ⟨q, 0, none⟩ (.int .i64 (-1)))) := Lib.hid (HU4.out.trans HX5.out)
    have HB25 := Lib.hid (HX5.out.heap HB24.out (by have := HQS.out; omega))
    clear hb5 HX5 e1
    go_upto_region 5 with fail
    generalize w4.setCell ⟨q, 0, none⟩ (.int .i64 (-1)) = w5 at *
    have c1 := cellRow HQ5.out 0 (.int .i64 (-1)) rfl
    have d0 := cellRow HB25.out 0 (.string n) rfl
    have d1 := cellRow HB25.out 1 (.string s) rfl
    have d2 := cellRow HB25.out 2 (.slice a L.length cap) rfl
    go_loopg [6] 0 (fun gk iv wr => iv = .int .i64 0 ∧ w5 = wr)
    case atStart => exact ⟨rfl, rfl⟩
    case round =>
      obtain ⟨rfl, rfl⟩ := hrel
      by_cases hl0 : 0 < L.length
      · have y1 : decide ((0 : Int) < (L.length : Int)) = true := decide_eq_true (by omega)
        have y1' : (0 : Int) < (L.length : Int) := by omega
        go_wp2_with fail
        go_end0
        exact ⟨rfl, HU5.out, HQ5.out⟩
      · have y1 : decide ((0 : Int) < (L.length : Int)) = false := decide_eq_false (by omega)
        have y1' : ¬ (0 : Int) < (L.length : Int) := by omega
        go_wp2_with fail
        go_end0
        exact ⟨rfl, HU5.out, HQ5.out⟩
  have t1 : (d == 0) = false := beq_eq_false_iff_ne.2 e1
  by_cases e2 : 100 < n.size
  · obtain rfl : V = -1 := by rw [← HV.out, bgT_eq, if_pos (.inr (.inl e2)), bgL_neg _ _ _ (by omega)]
    have t2 : decide ((100 : Int) < (n.size : Int)) = true := decide_eq_true (by omega)
    have t2' : (100 : Int) < (n.size : Int) := by omega
    have hb5 := setBlock HQ4.out 0 (.int .i64 (-1))
    have HQ5 : Hid ((w4.setCell ⟨q, 0, none⟩ (.int .i64 (-1))).heap[q]? = some (.cells #[.int .i64 (-1)] 3 (0, 0))) := Lib.hid (by simpa using hb5)
    have HX5 := Lib.hid ((Upd.refl (fun k => k = q) w4).setCell (p := ⟨q, 0, none⟩) (.inl rfl) (.int .i64 (-1)))
    have HU5 : Hid (Upd (fun k => k = q) w (w4.setCell ⟨q, 0, none⟩ (.int .i64 (-1)))) := Lib.hid (HU4.out.trans HX5.out)
    have HB25 := Lib.hid (HX5.out.heap HB24.out (by have := HQS.out; omega))
    clear hb5 HX5 e2
    go_upto_region 5 with fail
    generalize w4.setCell ⟨q, 0, none⟩ (.int .i64 (-1)) = w5 at *
    have c1 := cellRow HQ5.out 0 (.int .i64 (-1)) rfl
    have d0 := cellRow HB25.out 0 (.string n) rfl
    have d1 := cellRow HB25.out 1 (.string s) rfl
    have d2 := cellRow HB25.out 2 (.slice a L.length cap) rfl
    go_loopg [6] 0 (fun gk iv wr => iv = .int .i64 0 ∧ w5 = wr)
    case atStart => exact ⟨rfl, rfl⟩
    case round =>
      obtain ⟨rfl, rfl⟩ := hrel
      by_cases hl0 : 0 < L.length
      · have y1 : decide ((0 : Int) < (L.length : Int)) = true := decide_eq_true (by omega)
        have y1' : (0 : Int) < (L.length : Int) := by omega
        go_wp2_with fail
        go_end0
        exact ⟨rfl, HU5.out, HQ5.out⟩
      · have y1 : decide ((0 : Int) < (L.length : Int)) = false := decide_eq_false (by omega)
        have y1' : ¬ (0 : Int) < (L.length : Int) := by omega
        go_wp2_with fail
        go_end0
        exact ⟨rfl, HU5.out, HQ5.out⟩
  have t2 : decide ((100 : Int) < (n.size : Int)) = false := decide_eq_false (by omega)
  have t2' : ¬ (100 : Int) < (n.size : Int) := by omega
  by_cases e3 : 100 < s.size
  · obtain rfl : V = -1 := by rw [← HV.out, bgT_eq, if_pos (.inr (.inr (.inl e3))), bgL_neg _ _ _ (by omega)]
    have t3 : decide ((100 : Int) < (s.size : Int)) = true := decide_eq_true (by omega)
    have t3' : (100 : Int) < (s.size : Int) := by omega
    have hb5 := setBlock HQ4.out 0 (.int .i64 (-1))
    have HQ5 : Hid ((w4.setCell ⟨q, 0, none⟩ (.int .i64 (-1))).heap[q]? = some (.cells #[.int .i64 (-1)] 3 (0, 0))) := Lib.hid (by simpa using hb5)
    have HX5 := Lib.hid ((Upd.refl (fun k => k = q) w4).setCell (p := ⟨q, 0, none⟩) (.inl rfl) (.int .i64 (-1)))
    have HU5 : Hid (Upd (fun k => k = q) w (w4.setCell ⟨q, 0, none⟩ (.int .i64 (-1)))) := Lib.hid (HU4.out.trans HX5.out)
    have HB25 := Lib.hid (HX5.out.heap HB24.out (by have := HQS.out; omega))
    clear hb5 HX5 e3
    go_upto_region 5 with fail
    generalize w4.setCell ⟨q, 0, none⟩ (.int .i64 (-1)) = w5 at *
    have c1 := cellRow HQ5.out 0 (.int .i64 (-1)) rfl
    have d0 := cellRow HB25.out 0 (.string n) rfl
    have d1 := cellRow HB25.out 1 (.string s) rfl
    have d2 := cellRow HB25.out 2 (.slice a L.length cap) rfl
    go_loopg [6] 0 (fun gk iv wr => iv = .int .i64 0 ∧ w5 = wr)
    case atStart => exact ⟨rfl, rfl⟩
    case round =>
      obtain ⟨rfl, rfl⟩ := hrel
      by_cases hl0 : 0 < L.length
      · have y1 : decide ((0 : Int) < (L.length : Int)) = true := decide_eq_true (by omega)
        have y1' : (0 : Int) < (L.length : Int) := by omega
        go_wp2_with fail
        go_end0
        exact ⟨rfl, HU5.out, HQ5.out⟩
      · have y1 : decide ((0 : Int) < (L.length : Int)) = false := decide_eq_false (by omega)
        have y1' : ¬ (0 : Int) < (L.length : Int) := by omega
        go_wp2_with fail
        go_end0
        exact ⟨rfl, HU5.out, HQ5.out⟩
  have t3 : decide ((100 : Int) < (s.size : Int)) = false := decide_eq_false (by omega)
  have t3' : ¬ (100 : Int) < (s.size : Int) := by omega
  by_cases e4 : 40 < L.length
  · obtain rfl : V = -1 := by rw [← HV.out, bgT_eq, if_pos (.inr (.inr (.inr e4))), bgL_neg _ _ _ (by omega)]
    have t4 : decide ((40 : Int) < (L.length : Int)) = true := decide_eq_true (by omega)
    have t4' : (40 : Int) < (L.length : Int) := by omega
    have hb5 := setBlock HQ4.out 0 (.int .i64 (-1))
    have HQ5 : Hid ((w4.setCell ⟨q, 0, none⟩ (.int .i64 (-1))).heap[q]? = some (.cells #[.int .i64 (-1)] 3 (0, 0))) := Lib.hid (by simpa using hb5)
    have HX5 := Lib.hid ((Upd.refl (fun k => k = q) w4).setCell (p := ⟨q, 0, none⟩) (.inl rfl) (.int .i64 (-1)))
    have HU5 : Hid (Upd (fun k => k = q) w (w4.setCell ⟨q, 0, none⟩ (.int .i64 (-1)))) := Lib.hid (HU4.out.trans HX5.out)
    have HB25 := Lib.hid (HX5.out.heap HB24.out (by have := HQS.out; omega))
    clear hb5 HX5 e4
    go_upto_region 5 with fail
    generalize w4.setCell ⟨q, 0, none⟩ (.int .i64 (-1)) = w5 at *
    have c1 := cellRow HQ5.out 0 (.int .i64 (-1)) rfl
    have d0 := cellRow HB25.out 0 (.string n) rfl
    have d1 := cellRow HB25.out 1 (.string s) rfl
    have d2 := cellRow HB25.out 2 (.slice a L.length cap) rfl
    go_loopg [6] 0 (fun gk iv wr => iv = .int .i64 0 ∧ w5 = wr)
    case atStart => exact ⟨rfl, rfl⟩
    case round =>
      obtain ⟨rfl, rfl⟩ := hrel
      by_cases hl0 : 0 < L.length
      · have y1 : decide ((0 : Int) < (L.length : Int)) = true := decide_eq_true (by omega)
        have y1' : (0 : Int) < (L.length : Int) := by omega
        go_wp2_with fail
        go_end0
        exact ⟨rfl, HU5.out, HQ5.out⟩
      · exfalso
        omega
  have t4 : decide ((40 : Int) < (L.length : Int)) = false := decide_eq_false (by omega)
  have t4' : ¬ (40 : Int) < (L.length : Int) := by omega
  have HVL : Hid (bgL L (d - 1) (i - 1) = V) := Lib.hid (by rw [← HV.out, bgT_eq, if_neg (by omega)])
  have hL40 : L.length ≤ 40 := by omega
  have HD := Lib.hid (show 0 ≤ d - 1 ∧ d - 1 ≤ 80 by omega)
  clear e1 e2 e3 e4
  go_upto_region 5 with fail
  clear t1 t2 t2' t3 t3' t4 t4' c0 f0 b0 b1 b2
  go_loopg [6] L.length (fun gk iv wr => ∃ (k : Nat) (j : Int), iv = .int .i64 (k : Int) ∧ gk = L.length - k ∧ k ≤ L.length ∧ -1001 ≤ j ∧ j ≤ 1100 ∧ Hid (Upd (fun k => k = q) w wr) ∧ Hid (wr.heap[q]? = some (.cells #[.int .i64 j] 3 (0, 0))) ∧ Hid (wr.heap[w.heap.size]? = some (.cells #[.string n, .string s, .slice a L.length cap] 24 (0, 0))) ∧ Hid (bgL (L.drop k) (d - 1) j = V))
  case atStart => exact ⟨0, i - 1, rfl, rfl, Nat.zero_le _, by omega, by omega, HU4, HQ4, HB24, HVL⟩
  case round =>
    clear HU4 HQ4 HB24 HVL HS4
    obtain ⟨k, j, rfl, rfl, hk, hj0, hj1, HU, HQQ, HB, HVK⟩ := hrel
    have c0 := cellRow HQQ.out 0 (.int .i64 j) rfl
    have b0 := cellRow HB.out 0 (.string n) rfl
    have b1 := cellRow HB.out 1 (.string s) rfl
    have b2 := cellRow HB.out 2 (.slice a L.length cap) rfl
    by_cases hlt : k < L.length
    · have z0 : (0 : Int) ≤ (k : Int) := by omega
      have z1 : (k : Int) < (L.length : Int) := by omega
      have z2 : decide ((k : Int) < (L.length : Int)) = true := decide_eq_true z1
      have z2' : decide (k < L.length) = true := decide_eq_true hlt
      have hvk := HVK.out
      rw [tg_drop L k hlt, bgL_cons] at hvk
      by_cases hj : 0 ≤ j
      · have z3 : decide ((0 : Int) ≤ j) = true := decide_eq_true hj
        rw [if_pos hj] at hvk
        obtain ⟨g, off, hga, _, hat⟩ := (HTL.out.kept HU.out (fun k hk e => HQ.out (e ▸ hk))).at_ (by omega)
        subst hga
        obtain ⟨xa, xc, q0, q1, q2, hkid⟩ := hat k hlt
        rw [← Nat.add_assoc] at q1 q2
        have HIX := Lib.hid (fun W (hW : Ext wr W) => HIH.out (tg L k) (tg_mem L k hlt) _ S q r W (d - 1) j ⟨xa, xc, rfl, hkid.ext hW⟩ HQ.out (fun k hk => Nat.lt_of_lt_of_le (HSS.out k hk) (Nat.le_trans HU.out.size hW.size)) (hW.heap HQQ.out (fun h => h)) (hW.cell (HU.out.cell HR.out HRQ.out) (fun h => h)) HRQ.out HD.out.1 HD.out.2 (by omega) hj1)
        have r0 := HU.out.cell HR.out HRQ.out
        have hle := (bgT_le (tg L k) (d - 1) j).2.1 hj
        dsimp only [tV] at HIX
        obtain ⟨x, hx⟩ : ∃ x, tg L k = x := ⟨_, rfl⟩
        rw [hx] at q0 q1 q2 HIX hvk hle
        obtain ⟨j2, hj2⟩ : ∃ j2, bgT x (d - 1) j = j2 := ⟨_, rfl⟩
        rw [hj2] at HIX hvk hle
        have HV2 := Lib.hid hvk
        have HWR : Hid (Ext wr wr) := Lib.hid (Upd.refl _ _)
        have heg : ∀ args W, (callFunc 45 args).run Tryz.prog W = .ok (.enter 45 args) W := enters_of Tryz.func45 (by kernel_rfl) rfl
        clear hat hkid hx hvk hj2 HVK
        go_wp2_with fail
        go_still_tail 8, (by kernel_rfl)
        change wpList _ _ _ _ _ wr.drew
        go_wp2_with fail
        refine (HIX.out wr.drew HWR.out.drew).mono ?_
        rintro e w5 ⟨rfl, hw5, hq5⟩
        have HW5 : Hid (Upd (fun k => k = q) wr w5) := Lib.hid (((Upd.refl (fun k => k = q) wr).drewN' 1).trans hw5)
        have HQ5 := Lib.hid hq5
        clear hw5 hq5 HIX q0 q1 q2 r0 c0 b0 b1 b2
        go_wp2_with fail
        have HU5 := Lib.hid (HU.out.trans HW5.out)
        have HB5 := Lib.hid (HW5.out.heap HB.out (by have := HQS.out; omega))
        go_roundg (L.length - (k + 1))
        case measure => omega
        case rel => exact ⟨k + 1, j2, by go_num, rfl, by omega, by omega, by omega, HU5, HQ5, HB5, HV2⟩
      · have z3 : decide ((0 : Int) ≤ j) = false := decide_eq_false hj
        rw [if_neg hj] at hvk
        subst hvk
        clear HV HVK
        go_wp2_with fail
        go_end0
        exact ⟨rfl, HU.out, HQQ.out⟩
    · obtain rfl : k = L.length := by omega
      have z2 : decide ((L.length : Int) < (L.length : Int)) = false := decide_eq_false (by omega)
      have hvk := HVK.out
      rw [List.drop_length, bgL_nil] at hvk
      subst hvk
      clear HV HVK
      go_wp2_with fail
      go_end0
      exact ⟨rfl, HU.out, HQQ.out⟩

end Go.Proofs.YtjjaknmnhhfjeaaGreatDoor

/- big, zero. -/
namespace Go.Proofs.YtjjaknmnhhfjeaaGreatDoor
open Go.RowKit Go.Hw Go
set_option linter.unusedVariables false
set_option linter.unusedSimpArgs false

open Tm Go.Sort Go.Proofs Go.ChangeMaps
def bgs (L : List Tm) (i : Int) : Int := L.foldl (fun i t => bgT t 80 i) i
def bigF (L : List Tm) : Bool := decide (bgs L 1100 < 0)
theorem bgs_snoc (L : List Tm) (x : Tm) (i : Int) : bgs (L ++ [x]) i = bgT x 80 (bgs L i) := by unfold bgs; rw [List.foldl_append]; rfl
theorem bgs_bound : ∀ (L : List Tm) (i : Int), L.length ≤ 10 → -1000 + (L.length : Int) ≤ i → i ≤ 1100 → -1000 ≤ bgs L i ∧ bgs L i ≤ 1100
  | [], i, _, h0, h1 => by simp at h0; exact ⟨h0, h1⟩
  | x :: L, i, hl, h0, h1 => by
    have h2 := bgT_le x 80 i
    rw [List.length_cons] at hl h0
    have h3 : -1000 + (L.length : Int) ≤ bgT x 80 i ∧ bgT x 80 i ≤ 1100 := by
      by_cases hi : 0 ≤ i
      · have := h2.2.1 hi
        omega
      · rcases h2.2.2 (by omega) with e | e <;> omega
    exact bgs_bound L _ (by omega) h3.1 h3.2
theorem big_small {t : Tm} (h : bigF [t] = false) : t.size ≤ 1100 := by
  have h1 := of_decide_eq_false h
  unfold bgs at h1
  have h2 := (bgT_le t 80 1100).1 (by simpa using h1)
  have h3 : ¬ bgT t 80 1100 < 0 := by simpa using h1
  omega
set_option maxRecDepth 100000 in
set_option maxHeartbeats 2000000 in
theorem big_x (L : List Tm) (v : Value) (S : Nat → Prop) (w : World) (hT : TlR S w L v) (hS : ∀ k, S k → k < w.heap.size) (hl : L.length ≤ 10) :
    Calls Tryz.prog 10 #[v] w fun e w' => e = .returned (.bool (bigF L)) ∧ Ext w w' := by
  obtain ⟨a, cap, rfl⟩ := hT.shape
  obtain ⟨V, hV⟩ : ∃ V, bgs L 1100 = V := ⟨_, rfl⟩
  have hbv : bigF L = decide (V < 0) := by unfold bigF; rw [hV]
  rw [hbv]
  have HV := Lib.hid hV
  have HTL := Lib.hid hT
  have HSS := Lib.hid hS
  have HE0 := Lib.hid (((Upd.refl (fun _ => False) w).alloc (.cells #[.int .i64 1100] 3)).alloc (.cells #[.func (.func 45) #[] #[.pointer (some ⟨w.heap.size, 0, none⟩), .pointer (some ⟨w.heap.size + 1, 0, none⟩)]] 81))
  have HQ0 := Lib.hid (allocOld (alloc0 w (.cells #[.int .i64 1100] 3)) (.cells #[.func (.func 45) #[] #[.pointer (some ⟨w.heap.size, 0, none⟩), .pointer (some ⟨w.heap.size + 1, 0, none⟩)]] 81))
  have HR0 := Lib.hid (alloc_at (w.alloc (.cells #[.int .i64 1100] 3)) (.cells #[.func (.func 45) #[] #[.pointer (some ⟨w.heap.size, 0, none⟩), .pointer (some ⟨w.heap.size + 1, 0, none⟩)]] 81) (n := w.heap.size + 1) (by simp))
  have HZ0 : Hid (w.heap.size + 2 ≤ ((w.alloc (.cells #[.int .i64 1100] 3)).alloc (.cells #[.func (.func 45) #[] #[.pointer (some ⟨w.heap.size, 0, none⟩), .pointer (some ⟨w.heap.size + 1, 0, none⟩)]] 81)).heap.size) := Lib.hid (by simp)
  have heg : ∀ args W, (callFunc 45 args).run Tryz.prog W = .ok (.enter 45 args) W := enters_of Tryz.func45 (by kernel_rfl) rfl
  clear hT hS hV hbv
  go_enter Tryz.func10, Tryz.ntmps10
  go_upto_region 4 with fail
  generalize ((w.alloc (.cells #[.int .i64 1100] 3)).alloc (.cells #[.func (.func 45) #[] #[.pointer (some ⟨w.heap.size, 0, none⟩), .pointer (some ⟨w.heap.size + 1, 0, none⟩)]] 81)) = w1 at *
  go_wp2_with fail
  go_loopg [10] L.length (fun gk iv wr => ∃ k : Nat, iv = .int .i64 (k : Int) ∧ gk = L.length - k ∧ k ≤ L.length ∧ Hid (Upd (fun k => k = w.heap.size) w1 wr) ∧ Hid (wr.heap[w.heap.size]? = some (.cells #[.int .i64 (bgs (L.take k) 1100)] 3 (0, 0))) ∧ Hid (wr.heap[w.heap.size + 1]? = some (.cells #[.func (.func 45) #[] #[.pointer (some ⟨w.heap.size, 0, none⟩), .pointer (some ⟨w.heap.size + 1, 0, none⟩)]] 81 (0, 0))))
  case atStart => exact ⟨0, rfl, rfl, Nat.zero_le _, Lib.hid (Upd.refl _ _), HQ0, HR0⟩
  case round =>
    clear HQ0 HR0
    obtain ⟨k, rfl, rfl, hk, HU, HQ, HR⟩ := hrel
    have HEW : Hid (Ext w wr) := Lib.hid (HE0.out.trans' HU.out (fun j hj e => by omega))
    by_cases hlt : k < L.length
    · obtain ⟨g, off, hga, _, hat⟩ := (HTL.out.ext HEW.out).at_ (by omega)
      subst hga
      obtain ⟨xa, xc, q0, q1, q2, hkid⟩ := hat k hlt
      rw [← Nat.add_assoc] at q1 q2
      have z0 : (0 : Int) ≤ (k : Int) := by omega
      have z1 : (k : Int) < (L.length : Int) := by omega
      have z2 : decide ((k : Int) < (L.length : Int)) = true := decide_eq_true z1
      have z2' : decide (k < L.length) = true := decide_eq_true hlt
      have hbd := bgs_bound (L.take k) 1100 (by rw [List.length_take]; omega) (by rw [List.length_take]; omega) (by omega)
      have htk : bgs (L.take (k + 1)) 1100 = bgT (tg L k) 80 (bgs (L.take k) 1100) := by
        rw [← bgs_snoc]
        congr 1
        rw [List.take_add_one]
        congr 1
        unfold tg
        rw [List.getD_eq_getElem?_getD, List.getElem?_eq_getElem hlt]
        rfl
      have HTK := Lib.hid htk
      obtain ⟨x, hx⟩ : ∃ x, tg L k = x := ⟨_, rfl⟩
      rw [hx] at q0 q1 q2 hkid HTK
      obtain ⟨I, hI⟩ : ∃ I, bgs (L.take k) 1100 = I := ⟨_, rfl⟩
      rw [hI] at hbd HQ HTK
      have hX5 := (Upd.refl (fun _ => False) wr).alloc (.cells #[.string x.name, .string x.sort, .slice xa x.kids.length xc] 24)
      have HX5 := Lib.hid hX5
      have hSW : ∀ j, S j → j < w.heap.size := HSS.out
      have HWK := Lib.hid (walkB_x x (tV x (.slice xa x.kids.length xc)) S w.heap.size (w.heap.size + 1) (wr.alloc (.cells #[.string x.name, .string x.sort, .slice xa x.kids.length xc] 24)) 80 I ⟨xa, xc, rfl, hkid.ext hX5⟩ (fun h => Nat.lt_irrefl _ (hSW _ h)) (fun j hj => Nat.lt_of_lt_of_le (hSW j hj) (Nat.le_trans HEW.out.size hX5.size)) (hX5.heap HQ.out (fun h => h)) (cellRow (hX5.heap HR.out (fun h => h)) 0 _ rfl) (by omega) (by decide) (by decide) (by omega) (by omega))
      have r0 := cellRow (hX5.heap HR.out (fun h => h)) 0 (.func (.func 45) #[] #[.pointer (some ⟨w.heap.size, 0, none⟩), .pointer (some ⟨w.heap.size + 1, 0, none⟩)]) rfl
      have HB5 := Lib.hid (alloc0 wr (.cells #[.string x.name, .string x.sort, .slice xa x.kids.length xc] 24))
      have x0 := cellRow HB5.out 0 (.string x.name) rfl
      have x1 := cellRow HB5.out 1 (.string x.sort) rfl
      have x2 := cellRow HB5.out 2 (.slice xa x.kids.length xc) rfl
      have HSQ : Hid (w.heap.size + 2 ≤ w1.heap.size) := HZ0
      dsimp only [tV] at HWK
      clear hat hkid hx hI hbd htk hX5 hSW
      go_wp2_with fail
      refine HWK.out.mono ?_
      rintro e w6 ⟨rfl, hw6, hq6⟩
      have HU6 : Hid (Upd (fun k => k = w.heap.size) w1 w6) := Lib.hid (HU.out.trans ((HX5.out.mono (fun _ _ h => h.elim)).trans hw6))
      have HQ6 : Hid (w6.heap[w.heap.size]? = some (.cells #[.int .i64 (bgs (L.take (k + 1)) 1100)] 3 (0, 0))) := Lib.hid (by rw [HTK.out]; exact hq6)
      have HR6 := Lib.hid (hw6.heap (HX5.out.heap HR.out (fun h => h)) (by omega))
      clear hw6 hq6 HWK q0 q1 q2 r0 x0 x1 x2
      go_wp2_with fail
      go_roundg (L.length - (k + 1))
      case measure => omega
      case rel => exact ⟨k + 1, by go_num, rfl, by omega, HU6, HQ6, HR6⟩
    · obtain rfl : k = L.length := by omega
      have z2 : decide ((L.length : Int) < (L.length : Int)) = false := decide_eq_false (by omega)
      have hq := HQ.out
      rw [List.take_length, HV.out] at hq
      have c0 := cellRow hq 0 (.int .i64 V) rfl
      clear hq HV
      go_wp2_with fail
      go_ret
      exact ⟨rfl, HEW.out⟩
set_option maxRecDepth 100000 in
set_option maxHeartbeats 2000000 in
theorem zero_x (t : Tm) (a : Option Addr) (cap : Nat) (w : World) : Calls Tryz.prog 16 #[tV t (.slice a t.kids.length cap)] w fun e w' => e = .returned (.bool (decide (t.name = nul) && decide (t.sort = nul) && decide (t.kids.length = 0))) ∧ Ext w w' := by
  have HE := Lib.hid ((Upd.refl (fun _ => False) w).alloc (.cells #[.string t.name, .string t.sort, .slice a t.kids.length cap] 24))
  have hb := alloc0 w (.cells #[.string t.name, .string t.sort, .slice a t.kids.length cap] 24)
  have y0 := cellRow hb 0 (.string t.name) rfl
  have y1 := cellRow hb 1 (.string t.sort) rfl
  have y2 := cellRow hb 2 (.slice a t.kids.length cap) rfl
  have s0 := emp_dec t.name
  have s1 := emp_dec t.sort
  have s2 : ((t.kids.length : Int) == 0) = decide (t.kids.length = 0) := by
    rw [Bool.eq_iff_iff, decide_eq_true_eq, beq_iff_eq]; omega
  generalize t.kids.length = m at *
  generalize decide (t.name = nul) = d0 at *
  generalize decide (t.sort = nul) = d1 at *
  obtain ⟨d2, hd2⟩ : ∃ b, decide (m = 0) = b := ⟨_, rfl⟩
  rw [hd2] at s2 ⊢
  clear hb hd2
  dsimp only [tV]
  go_enter Tryz.func16, Tryz.ntmps16
  cases d0
  · go_wp2_with fail
    go_ret
    exact ⟨rfl, HE.out⟩
  cases d1
  · go_wp2_with fail
    go_ret
    exact ⟨rfl, HE.out⟩
  go_wp2_with fail
  go_ret
  exact ⟨by simp, HE.out⟩
end Go.Proofs.YtjjaknmnhhfjeaaGreatDoor

/- SamePath, SameTrace. -/
namespace Go.Proofs.YtjjaknmnhhfjeaaGreatDoor
open Go.RowKit Go.Hw Go
set_option linter.unusedVariables false
set_option linter.unusedSimpArgs false

open Tm Go.Sort Go.Proofs Go.ChangeMaps
end Go.Proofs.YtjjaknmnhhfjeaaGreatDoor

/- At of the reference. -/
namespace Go.Proofs.YtjjaknmnhhfjeaaGreatDoor
open Go.RowKit Go.Hw Go
set_option linter.unusedVariables false
set_option linter.unusedSimpArgs false

open Tm Go.Sort Go.Proofs Go.ChangeMaps
def AtR (S : Nat → Prop) (w : World) (t : Tm) (p : List Int) (e : Ending) : Prop :=
  (subI t p = none ∧ e = .returned (.tuple #[.agg #[.string ⟨#[]⟩, .string ⟨#[]⟩, .slice none 0 0], .bool false])) ∨ ∃ x r, subI t p = some x ∧ e = .returned (.tuple #[tV x r, .bool true]) ∧ TlR S w x.kids r
set_option maxRecDepth 100000 in
set_option maxHeartbeats 2000000 in
theorem at02_x (t : Tm) (p : List Int) (tv pv : Value) (S T : Nat → Prop) (w : World) (hT : TmR S w t tv) (hS : ∀ k, S k → k < w.heap.size) (hP : PaR T w pv p) (hTB : ∀ k, T k → k < w.heap.size) (hl : p.length ≤ 1000000) :
    Calls Tryz.prog 17 #[tv, pv] w fun e w' => AtR S w' t p e ∧ Ext w w' := by
  have HP := Lib.hid hP
  obtain ⟨pa, pc, rfl⟩ := hP.shape
  obtain ⟨a, cap, rfl, hTL⟩ := hT
  have hZ := ((Upd.refl (fun _ => False) w).alloc (.cells #[.string t.name, .string t.sort, .slice a t.kids.length cap] 24)).alloc (.cells #[.string ⟨#[]⟩, .string ⟨#[]⟩, .slice none 0 0] 24)
  have HZ := Lib.hid hZ
  have HTL := Lib.hid (hTL.ext hZ)
  have HB0 := Lib.hid (allocOld (alloc0 w (.cells #[.string t.name, .string t.sort, .slice a t.kids.length cap] 24)) (.cells #[.string ⟨#[]⟩, .string ⟨#[]⟩, .slice none 0 0] 24))
  have HB1 := Lib.hid (alloc_at (w.alloc (.cells #[.string t.name, .string t.sort, .slice a t.kids.length cap] 24)) (.cells #[.string ⟨#[]⟩, .string ⟨#[]⟩, .slice none 0 0] 24) (n := w.heap.size + 1) (by simp))
  have hz2 : w.heap.size + 2 ≤ ((w.alloc (.cells #[.string t.name, .string t.sort, .slice a t.kids.length cap] 24)).alloc (.cells #[.string ⟨#[]⟩, .string ⟨#[]⟩, .slice none 0 0] 24)).heap.size := by simp
  have HZ2 := Lib.hid hz2
  have HSB := Lib.hid hS
  have HTB := Lib.hid hTB
  clear hP hTL hZ hz2 hS hTB
  dsimp only [tV]
  go_enter Tryz.func17, Tryz.ntmps17
  go_wp2_with fail
  generalize ((w.alloc (.cells #[.string t.name, .string t.sort, .slice a t.kids.length cap] 24)).alloc (.cells #[.string ⟨#[]⟩, .string ⟨#[]⟩, .slice none 0 0] 24)) = w1 at *
  go_loopg [6] p.length (fun gk iv wr => ∃ (k : Nat) (x : Tm) (xa : Option Addr) (xc : Nat), iv = .int .i64 (k : Int) ∧ gk = p.length - k ∧ k ≤ p.length ∧ Hid (subI t p = subI x (p.drop k)) ∧ Hid (wr.heap[w.heap.size]? = some (.cells #[.string x.name, .string x.sort, .slice xa x.kids.length xc] 24 (0, 0))) ∧ Hid (wr.heap[w.heap.size + 1]? = some (.cells #[.string ⟨#[]⟩, .string ⟨#[]⟩, .slice none 0 0] 24 (0, 0))) ∧ Hid (TlR S wr x.kids (.slice xa x.kids.length xc)) ∧ Hid (Ext w wr) ∧ Hid (w.heap.size + 2 ≤ wr.heap.size))
  case atStart => exact ⟨0, t, a, cap, rfl, rfl, Nat.zero_le _, Lib.hid rfl, HB0, HB1, HTL, HZ, HZ2⟩
  case round =>
    clear HTL HZ HZ2 HB0 HB1
    obtain ⟨k, x, xa, xc, rfl, rfl, hk, HS, HB0, HB1, HX, HE, HZ2⟩ := hrel
    have x0 := cellRow HB0.out 0 (.string x.name) rfl
    have x1 := cellRow HB0.out 1 (.string x.sort) rfl
    have x2 := cellRow HB0.out 2 (.slice xa x.kids.length xc) rfl
    have f1 := fun i => frozenRow HB0.out i
    by_cases hlt : k < p.length
    · obtain ⟨g, off, hga, hTg, hat⟩ := SlR.one_at (d := (0 : Int)) (SlR.kept HP.out HE.out (fun _ _ h => h)) (by omega)
      subst hga
      have q0 := hat k hlt
      have hgw := HTB.out _ hTg
      have z0 : (0 : Int) ≤ (k : Int) := by omega
      have z1 : (k : Int) < (p.length : Int) := by omega
      have z2 : decide ((k : Int) < (p.length : Int)) = true := decide_eq_true z1
      have z2' : decide (k < p.length) = true := decide_eq_true hlt
      have hd : p.drop k = p.getD k 0 :: p.drop (k + 1) := by
        rw [List.drop_eq_getElem_cons hlt, List.getD_eq_getElem?_getD, List.getElem?_eq_getElem hlt]; rfl
      have hs := HS.out
      rw [hd, subI_cons] at hs
      have HS2 := Lib.hid hs
      obtain ⟨i, hi⟩ : ∃ i, p.getD k 0 = i := ⟨_, rfl⟩
      rw [hi] at q0 HS2
      have hTL := HX.out
      clear hat hd hs hi HS HX hTg f1
      by_cases hi0 : i < 0
      · have HV : Hid (subI t p = none) := Lib.hid (by rw [HS2.out, if_pos (.inl hi0)])
        have y1 : decide (i < 0) = true := decide_eq_true hi0
        go_wp2_with fail
        go_quiet (fail)
        have hD := (Upd.refl (fun _ => False) wr).drewN' nq
        have HED := Lib.hid (HE.out.trans hD)
        have HB0D := Lib.hid (hD.heap HB0.out (fun h => h))
        have HB1D := Lib.hid (hD.heap HB1.out (fun h => h))
        have HTD := Lib.hid (hTL.ext hD)
        have q0D := hD.cell q0 (fun h => h)
        have HZD := Lib.hid (Nat.le_trans HZ2.out hD.size)
        clear hD HE HB0 HB1 hTL x0 x1 x2 q0
        generalize wr.drewN nq = wd at *
        have f2 := fun i => frozenRow HB1D.out i
        have d0 := cellRow HB1D.out 0 (.string ⟨#[]⟩) rfl
        have d1 := cellRow HB1D.out 1 (.string ⟨#[]⟩) rfl
        have d2 := cellRow HB1D.out 2 (.slice none 0 0) rfl
        go_wp2_with fail
        have hr3 := st3_heap HB1D.out (.string ⟨#[]⟩) (.string ⟨#[]⟩) (.slice none 0 0)
        have hu := st3_upd' wd (w.heap.size + 1) (.string ⟨#[]⟩) (.string ⟨#[]⟩) (.slice none 0 0)
        have e0 := cellRow hr3 0 _ rfl
        have e1 := cellRow hr3 1 _ rfl
        have e2 := cellRow hr3 2 _ rfl
        refine bodyPost_ret (v := .tuple #[.agg #[.string ⟨#[]⟩, .string ⟨#[]⟩, .slice none 0 0], .bool false]) (by simp [results, Tryz.results17, go_sem, e0, e1, e2]) rfl ?_
        have hue := HED.out.trans' hu (fun j hj e => by omega)
        exact ⟨.inl ⟨HV.out, rfl⟩, hue⟩
      have y1 : decide (i < 0) = false := decide_eq_false hi0
      by_cases hi1 : (x.kids.length : Int) ≤ i
      · have HV : Hid (subI t p = none) := Lib.hid (by rw [HS2.out, if_pos (.inr hi1)])
        have y2 : decide ((x.kids.length : Int) ≤ i) = true := decide_eq_true hi1
        go_wp2_with fail
        go_quiet (fail)
        have hD := (Upd.refl (fun _ => False) wr).drewN' nq
        have HED := Lib.hid (HE.out.trans hD)
        have HB0D := Lib.hid (hD.heap HB0.out (fun h => h))
        have HB1D := Lib.hid (hD.heap HB1.out (fun h => h))
        have HTD := Lib.hid (hTL.ext hD)
        have q0D := hD.cell q0 (fun h => h)
        have HZD := Lib.hid (Nat.le_trans HZ2.out hD.size)
        clear hD HE HB0 HB1 hTL x0 x1 x2 q0
        generalize wr.drewN nq = wd at *
        have f2 := fun i => frozenRow HB1D.out i
        have d0 := cellRow HB1D.out 0 (.string ⟨#[]⟩) rfl
        have d1 := cellRow HB1D.out 1 (.string ⟨#[]⟩) rfl
        have d2 := cellRow HB1D.out 2 (.slice none 0 0) rfl
        go_wp2_with fail
        have hr3 := st3_heap HB1D.out (.string ⟨#[]⟩) (.string ⟨#[]⟩) (.slice none 0 0)
        have hu := st3_upd' wd (w.heap.size + 1) (.string ⟨#[]⟩) (.string ⟨#[]⟩) (.slice none 0 0)
        have e0 := cellRow hr3 0 _ rfl
        have e1 := cellRow hr3 1 _ rfl
        have e2 := cellRow hr3 2 _ rfl
        refine bodyPost_ret (v := .tuple #[.agg #[.string ⟨#[]⟩, .string ⟨#[]⟩, .slice none 0 0], .bool false]) (by simp [results, Tryz.results17, go_sem, e0, e1, e2]) rfl ?_
        have hue := HED.out.trans' hu (fun j hj e => by omega)
        exact ⟨.inl ⟨HV.out, rfl⟩, hue⟩
      have y2 : decide ((x.kids.length : Int) ≤ i) = false := decide_eq_false hi1
      have HV : Hid (subI t p = subI (tg x.kids i.toNat) (p.drop (k + 1))) := Lib.hid (by rw [HS2.out, if_neg (by omega)])
      obtain ⟨j, rfl⟩ : ∃ j : Nat, i = (j : Int) := ⟨i.toNat, by omega⟩
      have hjn : ((j : Int)).toNat = j := by omega
      rw [hjn] at HV
      have hj : j < x.kids.length := by omega
      have u0 : (0 : Int) ≤ (j : Int) := by omega
      have u1 : (j : Int) < (x.kids.length : Int) := by omega
      go_wp2_with fail
      go_quiet (fail)
      have hD := (Upd.refl (fun _ => False) wr).drewN' nq
      have HED := Lib.hid (HE.out.trans hD)
      have HB0D := Lib.hid (hD.heap HB0.out (fun h => h))
      have HB1D := Lib.hid (hD.heap HB1.out (fun h => h))
      have HTD := Lib.hid (hTL.ext hD)
      have q0D := hD.cell q0 (fun h => h)
      have HZD := Lib.hid (Nat.le_trans HZ2.out hD.size)
      clear hD HE HB0 HB1 hTL x0 x1 x2 q0
      generalize wr.drewN nq = wd at *
      have c7 : True := trivial
      obtain ⟨g2, off2, hga2, hSg, hat2⟩ := HTD.out.at_ (by omega)
      subst hga2
      have hgs := HSB.out _ hSg
      obtain ⟨ya, yc, r0, r1, r2, hy⟩ := hat2 j hj
      rw [← Nat.add_assoc] at r1 r2
      obtain ⟨y, hyy⟩ : ∃ y, tg x.kids j = y := ⟨_, rfl⟩
      rw [hyy] at r0 r1 r2 hy HV
      have x0 := cellRow HB0D.out 0 (.string x.name) rfl
      have x1 := cellRow HB0D.out 1 (.string x.sort) rfl
      have x2 := cellRow HB0D.out 2 (.slice (some ⟨g2, off2, none⟩) x.kids.length xc) rfl
      have f1 := fun i => frozenRow HB0D.out i
      have HY := Lib.hid hy
      clear hat2 hyy hy HS2 hi0 hi1 hjn HTD
      go_wp2_with fail
      go_still_tail 8, (by kernel_rfl)
      change wpList _ _ _ _ _ wd.drew
      go_wp2_with fail
      have hu := st3_upd' wd w.heap.size (.string y.name) (.string y.sort) (.slice ya y.kids.length yc)
      have hr := st3_heap HB0D.out (.string y.name) (.string y.sort) (.slice ya y.kids.length yc)
      have hu2 := hu.drewN' 1
      have HE4 := Lib.hid (HED.out.trans' hu2 (fun j hj e => by omega))
      have HB04 := Lib.hid (((Upd.refl (fun _ => False) _).drewN' 1).heap hr (fun h => h))
      have HB14 := Lib.hid (hu2.heap HB1D.out (by omega))
      have HX4 := Lib.hid (HY.out.kept hu2 (fun j hj e => by have := HSB.out _ hj; omega))
      have HZ4 := Lib.hid (Nat.le_trans HZD.out hu2.size)
      go_roundg (p.length - (k + 1))
      case measure => omega
      case rel => exact ⟨k + 1, y, ya, yc, by go_num, rfl, by omega, HV, HB04, HB14, HX4, HE4, HZ4⟩
    · obtain rfl : k = p.length := by omega
      have z2 : decide ((p.length : Int) < (p.length : Int)) = false := decide_eq_false (by omega)
      have HV : Hid (subI t p = some x) := Lib.hid (by rw [HS.out, List.drop_length]; rfl)
      have f2 := fun i => frozenRow HB1.out i
      have d0 := cellRow HB1.out 0 (.string ⟨#[]⟩) rfl
      have d1 := cellRow HB1.out 1 (.string ⟨#[]⟩) rfl
      have d2 := cellRow HB1.out 2 (.slice none 0 0) rfl
      go_wp2_with fail
      have hr3 := st3_heap HB1.out (.string x.name) (.string x.sort) (.slice xa x.kids.length xc)
      have hu := st3_upd' wr (w.heap.size + 1) (.string x.name) (.string x.sort) (.slice xa x.kids.length xc)
      have e0 := cellRow hr3 0 _ rfl
      have e1 := cellRow hr3 1 _ rfl
      have e2 := cellRow hr3 2 _ rfl
      refine bodyPost_ret (v := .tuple #[.agg #[.string x.name, .string x.sort, .slice xa x.kids.length xc], .bool true]) (by simp [results, Tryz.results17, go_sem, e0, e1, e2]) rfl ?_
      have hue := HE.out.trans' hu (fun j hj e => by omega)
      exact ⟨.inr ⟨x, .slice xa x.kids.length xc, HV.out, rfl, HX.out.kept hu (fun j hj e => by have := HSB.out _ hj; omega)⟩, hue⟩

end Go.Proofs.YtjjaknmnhhfjeaaGreatDoor

/- Put of the reference. -/
namespace Go.Proofs.YtjjaknmnhhfjeaaGreatDoor
open Go.RowKit Go.Hw Go
set_option linter.unusedVariables false
set_option linter.unusedSimpArgs false

open Tm Go.Sort Go.Proofs Go.ChangeMaps
theorem set_tl {te : TypeId} {b : Nat} {w : World} {L : List Tm} {us : List Value} {i : Nat} {y : Tm} {u : Value} {S T : Nat → Prop} {g c : Nat} (hl : us.length = L.length) (hown : w.ownsRow b te 3 (.slice (some ⟨g, 0, none⟩) L.length c) L.length (tCells L us))
    (hk : ∀ j, j < L.length → TlR S w (tg L j).kids (ug us j)) (hi : i < L.length) (hy : TlR T w y.kids u) (hS : ∀ k, S k → k ≠ g) (hT : ∀ k, T k → k ≠ g) :
    TlR (fun k => k = g ∨ S k ∨ T k) (st3 w (g, i * 3) y.name y.sort u) (L.set i y) (.slice (some ⟨g, 0, none⟩) L.length c) := by
  have hU := st3_upd w (g, i * 3) y.name y.sort u
  have hown2 : (st3 w (g, i * 3) y.name y.sort u).ownsRow b te 3 (.slice (some ⟨g, 0, none⟩) L.length c) L.length (tCells (L.set i y) (us.set i u)) := by
    rw [← tCells_set L us i y u hl hi]
    exact own_setN (own_setN (own_setN hown _ _) _ _) _ _
  refine .mk _ (us.set i u) _ (by simp [hl]) (by rw [List.length_set]; exact (SlR.of_own hown2).weaken (fun k hk => .inl (by injection hk with hk; exact hk.symm))) (fun j hj => ?_)
  rw [List.length_set] at hj
  rw [tg_set L i j y hi, ug_set us i j u (by omega)]
  by_cases hij : i = j
  · rw [if_pos hij, if_pos hij]
    exact (hy.kept hU (fun k hk e => hT k hk e)).weaken (fun k hk => .inr (.inr hk))
  · rw [if_neg hij, if_neg hij]
    exact ((hk j hj).kept hU (fun k hk e => hS k hk e)).weaken (fun k hk => .inr (.inl hk))
theorem tCells_one1 : ∀ (L : List Tm) (us : List Value), (∀ j, j < L.length → ∃ a n c, ug us j = .slice a n c) → ∀ v ∈ tCells L us, v.oneCell' = true
  | [], _, _, v, h => by cases h
  | t :: L, us, hs, v, h => by
    unfold tCells at h
    rcases List.mem_cons.1 h with rfl | h
    · rfl
    rcases List.mem_cons.1 h with rfl | h
    · rfl
    rcases List.mem_cons.1 h with rfl | h
    · obtain ⟨a, n, c, e⟩ := hs 0 (by simp)
      cases us with
      | nil => rfl
      | cons x us =>
        have e : x = .slice a n c := by simpa [ug] using e
        subst e
        rfl
    · refine tCells_one1 L us.tail (fun j hj => ?_) v h
      obtain ⟨a, n, c, e⟩ := hs (j + 1) (by simpa using hj)
      refine ⟨a, n, c, ?_⟩
      rw [← e]
      cases us with
      | nil => rfl
      | cons x us => rfl
set_option maxRecDepth 100000 in
set_option maxHeartbeats 2000000 in
theorem put02_x (u : Tm) : ∀ (p : List Nat) (t : Tm) (tv pv uv : Value) (S : Nat → Prop) (w : World), TmR S w t tv → TmR S w u uv → (∀ k, S k → k < w.heap.size) → SlR (fun k => k < w.heap.size) w 1 pv p.length (p.map fun i : Nat => Value.int .i64 (i : Int)) → okP t p → t.size ≤ 100000 → p.length ≤ 1000000 →
    Calls Tryz.prog 51 #[tv, pv, uv] w fun e w' => ∃ r, e = .returned (tV (putAt t p u) r) ∧ TlR (fun k => S k ∨ (w.heap.size ≤ k ∧ k < w'.heap.size)) w' (putAt t p u).kids r ∧ Ext w w' := by
  intro p
  induction p with
  | nil =>
    intro t tv pv uv S w hT hU hSS hP _ hsz hpl
    obtain ⟨pa, pc, rfl⟩ := hP.shape
    obtain ⟨a, cap, rfl, hTL⟩ := hT
    obtain ⟨ua, uc, rfl, hUL⟩ := hU
    have hE1 := (((Upd.refl (fun _ => False) w).alloc (.cells #[.string t.name, .string t.sort, .slice a t.kids.length cap] 24)).alloc (.cells #[.string u.name, .string u.sort, .slice ua u.kids.length uc] 24)).alloc (.cells #[.string ⟨#[]⟩, .string ⟨#[]⟩, .slice none 0 0] 24)
    have HE1 := Lib.hid hE1
    have HB1 := Lib.hid (allocOld (alloc_at (w.alloc (.cells #[.string t.name, .string t.sort, .slice a t.kids.length cap] 24)) (.cells #[.string u.name, .string u.sort, .slice ua u.kids.length uc] 24) (n := w.heap.size + 1) (by simp)) (.cells #[.string ⟨#[]⟩, .string ⟨#[]⟩, .slice none 0 0] 24))
    have HB2 := Lib.hid (alloc_at ((w.alloc (.cells #[.string t.name, .string t.sort, .slice a t.kids.length cap] 24)).alloc (.cells #[.string u.name, .string u.sort, .slice ua u.kids.length uc] 24)) (.cells #[.string ⟨#[]⟩, .string ⟨#[]⟩, .slice none 0 0] 24) (n := w.heap.size + 2) (by simp))
    have hz3 : w.heap.size + 3 ≤ (((w.alloc (.cells #[.string t.name, .string t.sort, .slice a t.kids.length cap] 24)).alloc (.cells #[.string u.name, .string u.sort, .slice ua u.kids.length uc] 24)).alloc (.cells #[.string ⟨#[]⟩, .string ⟨#[]⟩, .slice none 0 0] 24)).heap.size := by simp
    have HS1 := Lib.hid hz3
    have e4 : putAt t [] u = u := by cases t; rfl
    rw [e4]
    have HU0 := Lib.hid hUL
    have y0 := cellRow HB1.out 0 (.string u.name) rfl
    have y1 := cellRow HB1.out 1 (.string u.sort) rfl
    have y2 := cellRow HB1.out 2 (.slice ua u.kids.length uc) rfl
    have f2 := fun i => frozenRow HB2.out i
    have d0 := cellRow HB2.out 0 (.string ⟨#[]⟩) rfl
    have d1 := cellRow HB2.out 1 (.string ⟨#[]⟩) rfl
    have d2 := cellRow HB2.out 2 (.slice none 0 0) rfl
    have zl : ([] : List Nat).length = 0 := rfl
    rw [zl]
    clear hTL hUL hE1 hz3 hP e4
    dsimp only [tV]
    go_enter Tryz.func51, Tryz.ntmps51
    go_wp2_with fail
    have hE2 := (((Upd.refl (fun _ => False) w).alloc (.cells #[.string t.name, .string t.sort, .slice a t.kids.length cap] 24)).alloc (.cells #[.string u.name, .string u.sort, .slice ua u.kids.length uc] 24)).alloc (.cells #[.string u.name, .string u.sort, .slice ua u.kids.length uc] 24)
    have hr3 := alloc_at ((w.alloc (.cells #[.string t.name, .string t.sort, .slice a t.kids.length cap] 24)).alloc (.cells #[.string u.name, .string u.sort, .slice ua u.kids.length uc] 24)) (.cells #[.string u.name, .string u.sort, .slice ua u.kids.length uc] 24) (n := w.heap.size + 2) (by simp)
    have e0 := cellRow hr3 0 _ rfl
    have e1 := cellRow hr3 1 _ rfl
    have e2 := cellRow hr3 2 _ rfl
    refine bodyPost_ret (v := .agg #[.string u.name, .string u.sort, .slice ua u.kids.length uc]) (by simp [results, Tryz.results51, go_sem, e0, e1, e2]) rfl ?_
    exact ⟨.slice ua u.kids.length uc, rfl, (HU0.out.ext hE2).weaken (fun k hk => .inl hk), hE2⟩
  | cons i p ihp =>
    intro t tv pv uv S w hT hU hSS hP hok hsz hpl
    have HSS := Lib.hid hSS
    have IH := fun (W : World) (hW : Ext w W) (kv qv : Value) hk hq => ihp (tg t.kids i) kv qv uv S W hk (hU.ext hW) (fun k hk => Nat.lt_of_lt_of_le (hSS k hk) hW.size) hq hok.2 (by have := size_kid (tg_mem t.kids i hok.1); omega) (by simp at hpl; omega)
    have HIH := Lib.hid IH
    have HP := Lib.hid hP
    have HI := Lib.hid hok.1
    obtain ⟨pa, pc, rfl⟩ := hP.shape
    obtain ⟨a, cap, rfl, hTL⟩ := hT
    obtain ⟨ua, uc, rfl, hUL⟩ := hU
    have hE1 := ((((Upd.refl (fun _ => False) w).alloc (.cells #[.string t.name, .string t.sort, .slice a t.kids.length cap] 24)).alloc (.cells #[.string u.name, .string u.sort, .slice ua u.kids.length uc] 24)).alloc (.cells #[.string ⟨#[]⟩, .string ⟨#[]⟩, .slice none 0 0] 24)).alloc (.cells #[.string t.name, .string t.sort, .slice a t.kids.length cap] 24)
    have HE1 := Lib.hid hE1
    have HB0 := Lib.hid (allocOld (allocOld (allocOld (alloc0 w (.cells #[.string t.name, .string t.sort, .slice a t.kids.length cap] 24)) (.cells #[.string u.name, .string u.sort, .slice ua u.kids.length uc] 24)) (.cells #[.string ⟨#[]⟩, .string ⟨#[]⟩, .slice none 0 0] 24)) (.cells #[.string t.name, .string t.sort, .slice a t.kids.length cap] 24))
    have HB1 := Lib.hid (allocOld (allocOld (alloc_at (w.alloc (.cells #[.string t.name, .string t.sort, .slice a t.kids.length cap] 24)) (.cells #[.string u.name, .string u.sort, .slice ua u.kids.length uc] 24) (n := w.heap.size + 1) (by simp)) (.cells #[.string ⟨#[]⟩, .string ⟨#[]⟩, .slice none 0 0] 24)) (.cells #[.string t.name, .string t.sort, .slice a t.kids.length cap] 24))
    have HB2 := Lib.hid (allocOld (alloc_at ((w.alloc (.cells #[.string t.name, .string t.sort, .slice a t.kids.length cap] 24)).alloc (.cells #[.string u.name, .string u.sort, .slice ua u.kids.length uc] 24)) (.cells #[.string ⟨#[]⟩, .string ⟨#[]⟩, .slice none 0 0] 24) (n := w.heap.size + 2) (by simp)) (.cells #[.string t.name, .string t.sort, .slice a t.kids.length cap] 24))
    have HB3 := Lib.hid (alloc_at ((((w.alloc (.cells #[.string t.name, .string t.sort, .slice a t.kids.length cap] 24)).alloc (.cells #[.string u.name, .string u.sort, .slice ua u.kids.length uc] 24)).alloc (.cells #[.string ⟨#[]⟩, .string ⟨#[]⟩, .slice none 0 0] 24))) (.cells #[.string t.name, .string t.sort, .slice a t.kids.length cap] 24) (n := w.heap.size + 3) (by simp))
    have hz3 : w.heap.size + 4 ≤ (((((w.alloc (.cells #[.string t.name, .string t.sort, .slice a t.kids.length cap] 24)).alloc (.cells #[.string u.name, .string u.sort, .slice ua u.kids.length uc] 24)).alloc (.cells #[.string ⟨#[]⟩, .string ⟨#[]⟩, .slice none 0 0] 24))).alloc (.cells #[.string t.name, .string t.sort, .slice a t.kids.length cap] 24)).heap.size := by simp
    have HS1 := Lib.hid hz3
    have HTL := Lib.hid hTL
    have HUL := Lib.hid hUL
    have hx0 := (allocOld (allocOld (alloc0 w (.cells #[.string t.name, .string t.sort, .slice a t.kids.length cap] 24)) (.cells #[.string u.name, .string u.sort, .slice ua u.kids.length uc] 24)) (.cells #[.string ⟨#[]⟩, .string ⟨#[]⟩, .slice none 0 0] 24))
    have x0 := cellRow hx0 0 (.string t.name) rfl
    have x1 := cellRow hx0 1 (.string t.sort) rfl
    have x2 := cellRow hx0 2 (.slice a t.kids.length cap) rfl
    have z1 : (((p.length + 1 : Nat) : Int) == 0) = false := beq_eq_false_iff_ne.2 (by omega)
    have z2 : decide (((p.length + 1 : Nat) : Int) = 0) = false := decide_eq_false (by omega)
    have hpl2 : (i :: p).length = p.length + 1 := rfl
    rw [hpl2]
    clear hTL hUL hE1 hz3 hP hok IH hx0 hpl2
    cases hTL0 : HTL.out with
    | mk _ us _ hl hsl hk =>
    have HSL := Lib.hid hsl
    have HKK := Lib.hid hk
    have HUSL := Lib.hid hl
    obtain ⟨iT, hi, hz0, hz1, hz2⟩ := info_parts infoT
    have hone := tCells_one1 t.kids us (fun j hj => by obtain ⟨a, c, e⟩ := (hk j hj).shape; exact ⟨a, _, c, e⟩)
    have HONE := Lib.hid hone
    have hE5 := ((((((Upd.refl (fun _ => False) w).alloc (.cells #[.string t.name, .string t.sort, .slice a t.kids.length cap] 24)).alloc (.cells #[.string u.name, .string u.sort, .slice ua u.kids.length uc] 24)).alloc (.cells #[.string ⟨#[]⟩, .string ⟨#[]⟩, .slice none 0 0] 24)).alloc (.cells #[.string t.name, .string t.sort, .slice a t.kids.length cap] 24)).alloc (.cells #[] 24))
    have HE5 := Lib.hid hE5
    have HOWN : Hid (((((((w.alloc (.cells #[.string t.name, .string t.sort, .slice a t.kids.length cap] 24)).alloc (.cells #[.string u.name, .string u.sort, .slice ua u.kids.length uc] 24)).alloc (.cells #[.string ⟨#[]⟩, .string ⟨#[]⟩, .slice none 0 0] 24)).alloc (.cells #[.string t.name, .string t.sort, .slice a t.kids.length cap] 24)).alloc (.cells #[] 24))).ownsRow w.heap.size 24 3 (.slice (some ⟨w.heap.size + 1 + 1 + 1 + 1, 0, none⟩) 0 0) 0 []) := Lib.hid (by
      have h := World.ownsRow_lit (base := w.heap.size) (e := 24) (size := 3) (((((w.alloc (.cells #[.string t.name, .string t.sort, .slice a t.kids.length cap] 24)).alloc (.cells #[.string u.name, .string u.sort, .slice ua u.kids.length uc] 24)).alloc (.cells #[.string ⟨#[]⟩, .string ⟨#[]⟩, .slice none 0 0] 24)).alloc (.cells #[.string t.name, .string t.sort, .slice a t.kids.length cap] 24))) #[] 0 (by simp; omega) (by unfold maxLen; omega) (by simp)
      simpa using h)
    have hks : t.kids.length ≤ 100000 := by have := size_eq t; have := length_le_sizes t.kids; omega
    have HKS := Lib.hid hks
    clear hTL0 hl hsl hk hone hE5 hks
    dsimp only [tV]
    go_enter Tryz.func51, Tryz.ntmps51
    go_wp2_with (at_builtin; refine wpList_append_sl _ rfl (.tmp 13) (.tmp 15) 22 rfl w.heap.size 24 iT (.agg #[.string ⟨#[]⟩, .string ⟨#[]⟩, .slice none 0 0]) 3 56 Tryz.underlying22 hi hz0 hz1 hz2 rfl (by decide) _ _ _ rfl HOWN.out S (.slice a t.kids.length cap) t.kids.length (tCells t.kids us) rfl (SlR.kept HSL.out HE5.out (fun _ _ h => h)) HONE.out ?c3 ?c4 HE5.out.size ?_)
    case c3 => have := HKS.out; unfold maxLen; omega
    case c4 => have := HKS.out; omega
    intro v7 w7 hG
    obtain ⟨g, c7, cur7, hv7, hg7, hs7⟩ := own_row0 hG.own (by have := HI.out; omega)
    subst hv7
    have hw5 : (((((w.alloc (.cells #[.string t.name, .string t.sort, .slice a t.kids.length cap] 24)).alloc (.cells #[.string u.name, .string u.sort, .slice ua u.kids.length uc] 24)).alloc (.cells #[.string ⟨#[]⟩, .string ⟨#[]⟩, .slice none 0 0] 24)).alloc (.cells #[.string t.name, .string t.sort, .slice a t.kids.length cap] 24)).alloc (.cells #[] 24)).heap.size = w.heap.size + 5 := by simp
    have hge : w.heap.size + 4 ≤ g := by
      rcases hG.where_ with h | h
      · have h' : g = w.heap.size + 1 + 1 + 1 + 1 := by injection h
        omega
      · have h' : g = (((((w.alloc (.cells #[.string t.name, .string t.sort, .slice a t.kids.length cap] 24)).alloc (.cells #[.string u.name, .string u.sort, .slice ua u.kids.length uc] 24)).alloc (.cells #[.string ⟨#[]⟩, .string ⟨#[]⟩, .slice none 0 0] 24)).alloc (.cells #[.string t.name, .string t.sort, .slice a t.kids.length cap] 24)).alloc (.cells #[] 24)).heap.size := by injection h
        omega
    have hF : ∀ k, k < w.heap.size + 4 → ¬ (Value.slice (some ⟨w.heap.size + 1 + 1 + 1 + 1, 0, none⟩) 0 0).ownBlock = some k := fun k hk e => by
      have e' : w.heap.size + 1 + 1 + 1 + 1 = k := by injection e
      omega
    have hF2 : ∀ k, k < w.heap.size → ¬ (Value.slice (some ⟨w.heap.size + 1 + 1 + 1 + 1, 0, none⟩) 0 0).ownBlock = some k := fun k hk e => hF k (by omega) e
    have hu := hG.upd
    have HB07 := Lib.hid (hu.heap (allocOld HB0.out (.cells #[] 24)) (hF _ (by omega)))
    have HB17 := Lib.hid (hu.heap (allocOld HB1.out (.cells #[] 24)) (hF _ (by omega)))
    have HB27 := Lib.hid (hu.heap (allocOld HB2.out (.cells #[] 24)) (hF _ (by omega)))
    have HB37 := Lib.hid (hu.heap (allocOld HB3.out (.cells #[] 24)) (hF _ (by omega)))
    have HE7 := Lib.hid (HE5.out.trans' hu (fun j hj e => hF2 j hj e))
    have HOW7 := Lib.hid hG.own
    have HG7 := Lib.hid hge
    have HSZ7 : Hid (w.heap.size + 5 ≤ w7.heap.size) := Lib.hid (by have := hu.size; omega)
    have f3 := fun i => frozenRow HB37.out i
    have m0 := cellRow HB37.out 0 (.string t.name) rfl
    have m1 := cellRow HB37.out 1 (.string t.sort) rfl
    have m2 := cellRow HB37.out 2 (.slice a t.kids.length cap) rfl
    clear hG hu hF hF2 hge hw5 hg7 hs7 HB0 HB1 HB2 HB3 HE1 HS1 HOWN hi hz0 hz1 hz2 x0 x1 x2
    go_upto_region 5 with fail
    clear m0 m1 m2 f3
    have hst : w7.setCell ⟨w.heap.size + 1 + 1 + 1, 2, none⟩ (.slice (some ⟨g, 0, none⟩) t.kids.length c7) = w7.setCell ⟨w.heap.size + 3, 2, none⟩ (.slice (some ⟨g, 0, none⟩) t.kids.length c7) := rfl
    rw [hst]
    have hv := (Upd.refl (fun k => k = w.heap.size + 3) w7).setCell (p := ⟨w.heap.size + 3, 2, none⟩) (.inl rfl) (.slice (some ⟨g, 0, none⟩) t.kids.length c7)
    have hb := setBlock HB37.out 2 (.slice (some ⟨g, 0, none⟩) t.kids.length c7)
    have HB38 : Hid ((w7.setCell ⟨w.heap.size + 3, 2, none⟩ (.slice (some ⟨g, 0, none⟩) t.kids.length c7)).heap[w.heap.size + 3]? = some (.cells #[.string t.name, .string t.sort, .slice (some ⟨g, 0, none⟩) t.kids.length c7] 24 (0, 0))) := Lib.hid (by simpa using hb)
    have HB08 := Lib.hid (hv.heap HB07.out (by omega))
    have HB18 := Lib.hid (hv.heap HB17.out (by omega))
    have HB28 := Lib.hid (hv.heap HB27.out (by omega))
    have HE8 := Lib.hid (HE7.out.trans' hv (fun j hj e => by omega))
    have HOW8 := Lib.hid (own_kept HOW7.out hv (fun k hk e => by
      have h : g = k := by injection hk
      have := HG7.out; omega))
    have HSZ8 := Lib.hid (Nat.le_trans HSZ7.out hv.size)
    clear hv hb hst HB37 HB07 HB17 HB27 HE7 HOW7 HSZ7
    generalize w7.setCell ⟨w.heap.size + 3, 2, none⟩ (.slice (some ⟨g, 0, none⟩) t.kids.length c7) = w8 at *
    obtain ⟨pg, poff, pc', hpv, hpc, hpS, hpj⟩ := SlR.pos (SlR.kept HP.out HE8.out (fun _ _ h => h)) (by simp)
    injection hpv with e1 e2 e3
    subst e1
    subst e3
    have q0 : w8.cell? ⟨pg, poff, none⟩ = some (.int .i64 (i : Int)) := by have := hpj 0 (by simp); simpa using this
    have hqq : SlR (fun k => k < w.heap.size) w8 1 (.slice (if pc = 1 then some ⟨pg, poff, none⟩ else some ⟨pg, poff + 1, none⟩) p.length (pc - 1)) p.length (p.map fun i : Nat => Value.int .i64 (i : Int)) := by
      by_cases hc1 : pc = 1
      · rw [if_pos hc1]
        exact ⟨by simp, .inr ⟨⟨pg, poff, none⟩, pc - 1, rfl, by simp at hpc; omega, fun _ => ⟨rfl, hpS⟩, fun j hj => by simp at hpc; omega⟩⟩
      · rw [if_neg hc1]
        exact ⟨by simp, .inr ⟨⟨pg, poff + 1, none⟩, pc - 1, rfl, by simp at hpc; omega, fun _ => ⟨rfl, hpS⟩, fun j hj => by
          have := hpj (j + 1) (by simp; omega)
          show w8.cell? ⟨pg, poff + 1 + j, none⟩ = _
          rw [show poff + 1 + j = poff + (j + 1) by omega, this]
          simp⟩⟩
    have HQQ := Lib.hid hqq
    obtain ⟨kg, koff, hka, hkS, hat⟩ := (HTL.out.ext HE8.out).at_ (by have := HI.out; omega)
    subst hka
    obtain ⟨xa, xc, r0, r1, r2, hkid⟩ := hat i HI.out
    rw [← Nat.add_assoc] at r1 r2
    have HKID := Lib.hid hkid
    obtain ⟨y, hyy⟩ : ∃ y, tg t.kids i = y := ⟨_, rfl⟩
    have HYY := Lib.hid hyy
    rw [hyy] at r0 r1 r2 HKID HIH
    have hii := HI.out
    have u0 : (0 : Int) ≤ (i : Int) := by omega
    have u1 : (i : Int) < (t.kids.length : Int) := by omega
    have u2 : (1 : Int) ≤ (p.length : Int) + 1 := by omega
    have hx0 : ∀ x : XF (fun _ => False) w8, x.val.cell? ⟨w.heap.size, 2, none⟩ = some (.slice (some ⟨kg, koff, none⟩) t.kids.length cap) := fun x => x.upd.cell (cellRow HB08.out 2 _ rfl) (fun h => h)
    have hx1 : ∀ x : XF (fun _ => False) w8, x.val.cell? ⟨w.heap.size + 3, 2, none⟩ = some (.slice (some ⟨g, 0, none⟩) t.kids.length c7) := fun x => x.upd.cell (cellRow HB38.out 2 _ rfl) (fun h => h)
    have hx2 : ∀ x : XF (fun _ => False) w8, x.val.cell? ⟨pg, poff, none⟩ = some (.int .i64 (i : Int)) := fun x => x.upd.cell q0 (fun h => h)
    have hx3 : ∀ x : XF (fun _ => False) w8, x.val.cell? ⟨kg, koff + i * 3, none⟩ = some (.string y.name) := fun x => x.upd.cell r0 (fun h => h)
    have hx4 : ∀ x : XF (fun _ => False) w8, x.val.cell? ⟨kg, koff + i * 3 + 1, none⟩ = some (.string y.sort) := fun x => x.upd.cell r1 (fun h => h)
    have hx5 : ∀ x : XF (fun _ => False) w8, x.val.cell? ⟨kg, koff + i * 3 + 2, none⟩ = some (.slice xa y.kids.length xc) := fun x => x.upd.cell r2 (fun h => h)
    have hx6 : ∀ x : XF (fun _ => False) w8, x.val.cell? ⟨w.heap.size + 1, 0, none⟩ = some (.string u.name) := fun x => x.upd.cell (cellRow HB18.out 0 _ rfl) (fun h => h)
    have hx7 : ∀ x : XF (fun _ => False) w8, x.val.cell? ⟨w.heap.size + 1, 1, none⟩ = some (.string u.sort) := fun x => x.upd.cell (cellRow HB18.out 1 _ rfl) (fun h => h)
    have hx8 : ∀ x : XF (fun _ => False) w8, x.val.cell? ⟨w.heap.size + 1, 2, none⟩ = some (.slice ua u.kids.length uc) := fun x => x.upd.cell (cellRow HB18.out 2 _ rfl) (fun h => h)
    clear hpj hqq hat hkid hyy q0 r0 r1 r2 e2 hpc hpS hkS
    refine wp_region_mix [(0, 0), (1, 0), (2, 0), (3, 0), (4, 0), (5, 0), (6, 0), (7, 0), (8, 0), (9, 0), (10, 0), (11, 0), (12, 0), (13, 0), (14, 0), (15, 1), (16, 2), (17, 2)] 16 (fun W => ∃ x : XF (fun _ => False) w8, W = x.val) (by kernel_rfl) (by kernel_rfl) (fun _ _ d _ _ h => by cases d <;> exact h) ⟨⟨_, (Upd.refl _ w8).drew⟩, rfl⟩ ?_
    simp only [pickO, List.getElem?_cons_zero, List.getElem?_cons_succ]
    iterate 15 (refine mix_take (fun K hK => ?_); go_simp; refine hK _ ?_; clear hK K)
    refine mix_one (fun K hK hS => ?_) ⟨⟨_, (Upd.refl _ w8).drew⟩, rfl⟩
    go_simp
    have hD8 := (Upd.refl (fun _ => False) w8).drew
    have HED := Lib.hid (HE8.out.trans hD8)
    dsimp only [tV] at HIH
    refine (HIH.out w8.drew HED.out _ _ ⟨xa, xc, rfl, HKID.out.ext hD8⟩ ((SlR.kept HQQ.out hD8 (fun _ _ h => h)).weaken (fun k hk => Nat.lt_of_lt_of_le hk HED.out.size))).mono ?_
    rintro e w9 ⟨r, rfl, hT9, hw9⟩
    refine hK _ _ ⟨⟨_, hD8.trans hw9⟩, rfl⟩ ?_
    clear hK K hS
    obtain ⟨z, hz⟩ : ∃ z, putAt y p u = z := ⟨_, rfl⟩
    rw [hz] at hT9 ⊢
    obtain ⟨za, zc, hr⟩ := hT9.shape
    subst hr
    try dsimp only [tV]
    have hEX := hD8.trans hw9
    have HE9 := Lib.hid (HE8.out.trans hEX)
    have hown9 := own_kept HOW8.out hEX (fun _ _ h => h)
    obtain ⟨g0, cap0, cur0, hv0, hcur0, _⟩ := own_row0 HOW8.out (by have := HI.out; omega)
    injection hv0 with d1 d2 d3
    injection d1 with d1
    injection d1 with d1
    subst d1
    have hg8 : g < w8.heap.size := (Array.getElem?_eq_some_iff.1 hcur0).1
    have HG8 := Lib.hid hg8
    obtain ⟨g', cap', cur, hv', hcur, hcb⟩ := own_row0 hown9 (by have := HI.out; omega)
    injection hv' with e1 e2 e3
    injection e1 with e1
    injection e1 with e1
    subst e1
    have hcb2 : i * 3 + 2 < cur.size := by have := HI.out; omega
    have m0 : w9.cell? ⟨g, i * 3, none⟩ = some (cur[i * 3]'(by omega)) := cellRow hcur (i * 3) _ (Array.getElem?_eq_getElem _)
    have m1 : w9.cell? ⟨g, i * 3 + 1, none⟩ = some (cur[i * 3 + 1]'(by omega)) := cellRow hcur (i * 3 + 1) _ (Array.getElem?_eq_getElem _)
    have m2 : w9.cell? ⟨g, i * 3 + 2, none⟩ = some (cur[i * 3 + 2]'(by omega)) := cellRow hcur (i * 3 + 2) _ (Array.getElem?_eq_getElem _)
    have fz := fun i => frozenRow hcur i
    generalize cur[i * 3]'(by omega) = v0 at m0
    generalize cur[i * 3 + 1]'(by omega) = v1 at m1
    generalize cur[i * 3 + 2]'(by omega) = v2 at m2
    have HB39 := Lib.hid (hEX.heap HB38.out (fun h => h))
    have HB29 := Lib.hid (hEX.heap HB28.out (fun h => h))
    have hTS := set_tl (i := i) (y := z) (u := .slice za z.kids.length zc) (S := S) (T := fun k => S k ∨ (w8.drew.heap.size ≤ k ∧ k < w9.heap.size)) HUSL.out hown9 (fun j hj => (HKK.out j hj).ext HE9.out) HI.out hT9 (fun k hk e => by have := HSS.out k hk; have := HG7.out; omega) (fun k hk e => by
      rcases hk with hk | hk
      · have := HSS.out k hk; have := HG7.out; omega
      · have h1 := hD8.size
        omega)
    have HTS := Lib.hid hTS
    have HST := Lib.hid (st3_upd w9 (g, i * 3) z.name z.sort (.slice za z.kids.length zc))
    have hs9 : w8.heap.size ≤ w9.heap.size := hEX.size
    have HS9 := Lib.hid hs9
    try clear d2
    try clear d3
    try clear e2
    try clear e3
    clear hown9 hcur hcur0 hcb hcb2 hTS hs9 hg8 hEX hD8 hw9 hT9 hx0 hx1 hx2 hx3 hx4 hx5 hx6 hx7 hx8
    refine mix_two (fun K hK => ?_)
    go_simp
    refine hK _ _ ?_
    clear hK K
    refine mix_two (fun K hK => ?_)
    go_simp
    refine hK _ _ ?_
    clear hK K
    simp only [wpMix]
    clear m0 m1 m2 fz
    have hst : ((w9.setCell ⟨g, i * 3, none⟩ (.string z.name)).setCell ⟨g, i * 3 + 1, none⟩ (.string z.sort)).setCell ⟨g, i * 3 + 2, none⟩ (.slice za z.kids.length zc) = st3 w9 (g, i * 3) z.name z.sort (.slice za z.kids.length zc) := rfl
    rw [hst]
    generalize st3 w9 (g, i * 3) z.name z.sort (.slice za z.kids.length zc) = wA at *
    have HBA3 := Lib.hid (HST.out.heap HB39.out (by show ¬ w.heap.size + 3 = g; have := HG7.out; omega))
    have HBA2 := Lib.hid (HST.out.heap HB29.out (by show ¬ w.heap.size + 2 = g; have := HG7.out; omega))
    have HEA := Lib.hid (HE9.out.trans' HST.out (fun j hj e => by have := HG7.out; have e' : j = g := e; omega))
    have HSA := Lib.hid HST.out.size
    have f2 := fun i => frozenRow HBA2.out i
    have d0 := cellRow HBA2.out 0 (.string ⟨#[]⟩) rfl
    have d1 := cellRow HBA2.out 1 (.string ⟨#[]⟩) rfl
    have d2 := cellRow HBA2.out 2 (.slice none 0 0) rfl
    have m0 := cellRow HBA3.out 0 (.string t.name) rfl
    have m1 := cellRow HBA3.out 1 (.string t.sort) rfl
    have m2 := cellRow HBA3.out 2 (.slice (some ⟨g, 0, none⟩) t.kids.length c7) rfl
    go_wp2_with fail
    all_goals
      try rw [show w.heap.size + 1 + 1 = w.heap.size + 2 from rfl]
      have hr3 := st3_heap HBA2.out (.string t.name) (.string t.sort) (.slice (some ⟨g, 0, none⟩) t.kids.length c7)
      have hu := st3_upd' wA (w.heap.size + 2) (.string t.name) (.string t.sort) (.slice (some ⟨g, 0, none⟩) t.kids.length c7)
      have e0 := cellRow hr3 0 _ rfl
      have e1 := cellRow hr3 1 _ rfl
      have e2 := cellRow hr3 2 _ rfl
      refine bodyPost_ret (v := .agg #[.string t.name, .string t.sort, .slice (some ⟨g, 0, none⟩) t.kids.length c7]) (by simp [results, Tryz.results51, go_sem, e0, e1, e2]) rfl ?_
      have hue := HEA.out.trans' hu (fun j hj e => by omega)
      have hnm : (putAt t (i :: p) u).name = t.name := by cases t; rfl
      have hso : (putAt t (i :: p) u).sort = t.sort := by cases t; rfl
      have hki : (putAt t (i :: p) u).kids = t.kids.set i z := by rw [← hz, ← HYY.out]; cases t; rfl
      have hkt := (HTS.out.kept hu (fun k hk e => by
        have := HG7.out
        have := HSZ8.out
        rcases hk with hk | hk | hk | hk
        · omega
        · have := HSS.out k hk; omega
        · have := HSS.out k hk; omega
        · have : w8.heap.size ≤ k := hk.1
          omega)).weaken (T := fun k => S k ∨ (w.heap.size ≤ k ∧ k < (((wA.setCell ⟨w.heap.size + 2, 0, none⟩ (.string t.name)).setCell ⟨w.heap.size + 2, 1, none⟩ (.string t.sort)).setCell ⟨w.heap.size + 2, 2, none⟩ (.slice (some ⟨g, 0, none⟩) t.kids.length c7)).heap.size)) (fun k hk => by
        have h1 := HG7.out
        have h2 := HG8.out
        have h3 := HS9.out
        have h4 := HSA.out
        have h5 := hu.size
        have h6 := HSZ8.out
        rcases hk with hk | hk | hk | hk
        · exact .inr ⟨by omega, by omega⟩
        · exact .inl hk
        · exact .inl hk
        · have h7 : w8.heap.size ≤ k := hk.1
          exact .inr ⟨by omega, by omega⟩)
      refine ⟨.slice (some ⟨g, 0, none⟩) t.kids.length c7, by rw [hnm, hso], ?_, hue⟩
      rw [hki]
      exact hkt

end Go.Proofs.YtjjaknmnhhfjeaaGreatDoor

/- Replace of the reference. -/
namespace Go.Proofs.YtjjaknmnhhfjeaaGreatDoor
open Go.RowKit Go.Hw Go Go.Sort Go.Proofs Go.ChangeMaps
set_option linter.unusedVariables false
set_option linter.unusedSimpArgs false

open Tm
theorem cast_back : ∀ {p : List Int} {t x : Tm}, subI t p = some x → ((p.map Int.toNat).map fun i : Nat => Value.int .i64 (i : Int)) = p.map (Value.int .i64)
  | [], _, _, _ => rfl
  | i :: p, t, x, h => by
    rw [subI_cons] at h
    by_cases hi : i < 0 ∨ (t.kids.length : Int) ≤ i
    · rw [if_pos hi] at h; cases h
    · rw [if_neg hi] at h
      have ih := cast_back h
      have h0 : ((i.toNat : Nat) : Int) = i := by omega
      simp only [List.map_cons, h0, ih]
set_option maxRecDepth 100000 in
set_option maxHeartbeats 2000000 in
theorem rrepl_x (t u : Tm) (p : List Int) (tv uv pv : Value) (w : World) (hT : TmR (fun k => k < w.heap.size) w t tv) (hU : TmR (fun k => k < w.heap.size) w u uv) (hP : SlR (fun k => k < w.heap.size) w 1 pv p.length (p.map (Value.int .i64))) (hsz : t.size ≤ 100000) (hl : p.length ≤ 1000000) :
    Calls Tryz.prog 13 #[tv, pv, uv] w fun e w' => ∃ r, e = .returned (.tuple #[tV (repF t p u).1 r, .int .i64 (repF t p u).2]) ∧ TlR (fun k => k < w'.heap.size) w' (repF t p u).1.kids r ∧ Ext w w' := by
  obtain ⟨pa, pc, rfl⟩ := SlR.shape hP
  have HP := Lib.hid hP
  obtain ⟨a, cap, rfl, hT⟩ := hT
  obtain ⟨ua, uc, rfl, hU⟩ := hU
  have HT := Lib.hid hT
  have HU := Lib.hid hU
  have HE0 := Lib.hid ((((Upd.refl (fun _ => False) w).alloc (.cells #[.string t.name, .string t.sort, .slice a t.kids.length cap] 24)).alloc (.cells #[.string u.name, .string u.sort, .slice ua u.kids.length uc] 24)).alloc (.cells #[.string ⟨#[]⟩, .string ⟨#[]⟩, .slice none 0 0] 24))
  have HB3 := Lib.hid (allocOld (allocOld (alloc0 w (.cells #[.string t.name, .string t.sort, .slice a t.kids.length cap] 24)) (.cells #[.string u.name, .string u.sort, .slice ua u.kids.length uc] 24)) (.cells #[.string ⟨#[]⟩, .string ⟨#[]⟩, .slice none 0 0] 24))
  have HB5 := Lib.hid (allocOld (alloc_at (w.alloc (.cells #[.string t.name, .string t.sort, .slice a t.kids.length cap] 24)) (.cells #[.string u.name, .string u.sort, .slice ua u.kids.length uc] 24) (n := w.heap.size + 1) (by simp)) (.cells #[.string ⟨#[]⟩, .string ⟨#[]⟩, .slice none 0 0] 24))
  have HB6 := Lib.hid (alloc_at ((w.alloc (.cells #[.string t.name, .string t.sort, .slice a t.kids.length cap] 24)).alloc (.cells #[.string u.name, .string u.sort, .slice ua u.kids.length uc] 24)) (.cells #[.string ⟨#[]⟩, .string ⟨#[]⟩, .slice none 0 0] 24) (n := w.heap.size + 2) (by simp))
  have HZ0 : Hid ((((w.alloc (.cells #[.string t.name, .string t.sort, .slice a t.kids.length cap] 24)).alloc (.cells #[.string u.name, .string u.sort, .slice ua u.kids.length uc] 24)).alloc (.cells #[.string ⟨#[]⟩, .string ⟨#[]⟩, .slice none 0 0] 24)).heap.size = w.heap.size + 3) := Lib.hid (by simp)
  have HWT := Lib.hid (fun W (hW : Ext w W) => rformed_x t (.agg #[.string t.name, .string t.sort, .slice a t.kids.length cap]) _ W (TmR.of (hT.ext hW)))
  have HWU := Lib.hid (fun W (hW : Ext w W) => rformed_x u (.agg #[.string u.name, .string u.sort, .slice ua u.kids.length uc]) _ W (TmR.of (hU.ext hW)))
  have HF0 : Hid (wf nmB t = false ∨ wf nmB u = false → repF t p u = (nulT, 1)) := Lib.hid (fun h => by unfold repF; rw [if_pos h])
  have HF1 : Hid (wf nmB t = true → wf nmB u = true → subI t p = none → repF t p u = (nulT, 2)) := Lib.hid (fun h h' h2 => by unfold repF; rw [if_neg (by rw [h, h']; simp), h2])
  have HF2 : Hid (wf nmB t = true → wf nmB u = true → ∀ x, subI t p = some x → repF t p u = if formed nmB (putAt t (p.map Int.toNat) u) = false then (nulT, 4) else if (sortsT (putAt t (p.map Int.toNat) u)).isSome = false then (nulT, 11) else (putAt t (p.map Int.toNat) u, 0)) := Lib.hid (fun h h' x h2 => by unfold repF; rw [if_neg (by rw [h, h']; simp), h2])
  obtain ⟨F, hF⟩ : ∃ F, repF t p u = F := ⟨_, rfl⟩
  rw [hF] at HF0 HF1 HF2 ⊢
  dsimp only [tV] at ⊢
  obtain ⟨WT, hWT⟩ : ∃ b, wf nmB t = b := ⟨_, rfl⟩
  obtain ⟨WU, hWU⟩ : ∃ b, wf nmB u = b := ⟨_, rfl⟩
  rw [hWT] at HWT HF0 HF1 HF2
  rw [hWU] at HWU HF0 HF1 HF2
  clear hP hT hU hF hWT hWU
  have k0 := cellRow HB3.out 0 (.string t.name) rfl
  have k1 := cellRow HB3.out 1 (.string t.sort) rfl
  have k2 := cellRow HB3.out 2 (.slice a t.kids.length cap) rfl
  have l0 := cellRow HB5.out 0 (.string u.name) rfl
  have l1 := cellRow HB5.out 1 (.string u.sort) rfl
  have l2 := cellRow HB5.out 2 (.slice ua u.kids.length uc) rfl
  go_enter Tryz.func13, Tryz.ntmps13
  go_wp2_with fail
  refine (HWT.out _ HE0.out).mono ?_
  rintro e w4 ⟨rfl, hw4⟩
  have H4 := Lib.hid (HE0.out.trans hw4)
  have HB34 := Lib.hid (hw4.heap HB3.out (fun h => h))
  have HB54 := Lib.hid (hw4.heap HB5.out (fun h => h))
  have HB64 := Lib.hid (hw4.heap HB6.out (fun h => h))
  have HZ4 : Hid (w.heap.size + 3 ≤ w4.heap.size) := Lib.hid (by rw [← HZ0.out]; exact hw4.size)
  clear hw4 k0 k1 k2 l0 l1 l2 HWT HB3 HB5 HB6 HE0
  have k0 := cellRow HB34.out 0 (.string t.name) rfl
  have k1 := cellRow HB34.out 1 (.string t.sort) rfl
  have k2 := cellRow HB34.out 2 (.slice a t.kids.length cap) rfl
  have l0 := cellRow HB54.out 0 (.string u.name) rfl
  have l1 := cellRow HB54.out 1 (.string u.sort) rfl
  have l2 := cellRow HB54.out 2 (.slice ua u.kids.length uc) rfl
  cases WT
  · have HV := Lib.hid (HF0.out (.inl (by simp)))
    clear HWU
    have f2 := fun i => frozenRow HB64.out i
    have d0 := cellRow HB64.out 0 (.string ⟨#[]⟩) rfl
    have d1 := cellRow HB64.out 1 (.string ⟨#[]⟩) rfl
    have d2 := cellRow HB64.out 2 (.slice none 0 0) rfl
    go_wp2_with fail
    have hr := st3_heap HB64.out (.string ⟨#[]⟩) (.string ⟨#[]⟩) (.slice none 0 0)
    have hu := st3_upd' w4 (w.heap.size + 2) (.string ⟨#[]⟩) (.string ⟨#[]⟩) (.slice none 0 0)
    have e0 := cellRow hr 0 (.string ⟨#[]⟩) rfl
    have e1 := cellRow hr 1 (.string ⟨#[]⟩) rfl
    have e2 := cellRow hr 2 (.slice none 0 0) rfl
    refine bodyPost_ret (v := .tuple #[.agg #[.string ⟨#[]⟩, .string ⟨#[]⟩, .slice none 0 0], .int .i64 1]) (by simp [results, Tryz.results13, go_sem, e0, e1, e2]) rfl ⟨.slice none 0 0, by rw [HV.out]; rfl, by rw [HV.out]; exact TlR.nil _ _, H4.out.trans' hu (fun j hj e => by omega)⟩
  go_wp2_with fail
  refine (HWU.out _ H4.out).mono ?_
  rintro e w5 ⟨rfl, hw5⟩
  have H5 := Lib.hid (H4.out.trans hw5)
  have HB35 := Lib.hid (hw5.heap HB34.out (fun h => h))
  have HB55 := Lib.hid (hw5.heap HB54.out (fun h => h))
  have HB65 := Lib.hid (hw5.heap HB64.out (fun h => h))
  have HZ5 : Hid (w.heap.size + 3 ≤ w5.heap.size) := Lib.hid (Nat.le_trans HZ4.out hw5.size)
  clear hw5 k0 k1 k2 l0 l1 l2 HWU HB34 HB54 HB64
  have k0 := cellRow HB35.out 0 (.string t.name) rfl
  have k1 := cellRow HB35.out 1 (.string t.sort) rfl
  have k2 := cellRow HB35.out 2 (.slice a t.kids.length cap) rfl
  have l0 := cellRow HB55.out 0 (.string u.name) rfl
  have l1 := cellRow HB55.out 1 (.string u.sort) rfl
  have l2 := cellRow HB55.out 2 (.slice ua u.kids.length uc) rfl
  cases WU
  · have HV := Lib.hid (HF0.out (.inr (by simp)))
    have f2 := fun i => frozenRow HB65.out i
    have d0 := cellRow HB65.out 0 (.string ⟨#[]⟩) rfl
    have d1 := cellRow HB65.out 1 (.string ⟨#[]⟩) rfl
    have d2 := cellRow HB65.out 2 (.slice none 0 0) rfl
    go_wp2_with fail
    have hr := st3_heap HB65.out (.string ⟨#[]⟩) (.string ⟨#[]⟩) (.slice none 0 0)
    have hu := st3_upd' w5 (w.heap.size + 2) (.string ⟨#[]⟩) (.string ⟨#[]⟩) (.slice none 0 0)
    have e0 := cellRow hr 0 (.string ⟨#[]⟩) rfl
    have e1 := cellRow hr 1 (.string ⟨#[]⟩) rfl
    have e2 := cellRow hr 2 (.slice none 0 0) rfl
    refine bodyPost_ret (v := .tuple #[.agg #[.string ⟨#[]⟩, .string ⟨#[]⟩, .slice none 0 0], .int .i64 1]) (by simp [results, Tryz.results13, go_sem, e0, e1, e2]) rfl ⟨.slice none 0 0, by rw [HV.out]; rfl, by rw [HV.out]; exact TlR.nil _ _, H5.out.trans' hu (fun j hj e => by omega)⟩
  have HF1' := Lib.hid (HF1.out (by simp) (by simp))
  have HF2' := Lib.hid (HF2.out (by simp) (by simp))
  clear HF0 HF1 HF2
  have HAT := Lib.hid (at02_x t p (.agg #[.string t.name, .string t.sort, .slice a t.kids.length cap]) (.slice pa p.length pc) (fun k => k < w.heap.size) (fun k => k < w.heap.size) w5 (TmR.of (HT.out.ext H5.out)) (fun k hk => Nat.lt_of_lt_of_le hk H5.out.size) (HP.out.kept H5.out (fun _ _ h => h)) (fun k hk => Nat.lt_of_lt_of_le hk H5.out.size) (by omega))
  go_wp2_with fail
  refine HAT.out.mono ?_
  rintro e w6 ⟨hat, hw6⟩
  have H6 := Lib.hid (H5.out.trans hw6)
  have HZ6 : Hid (w.heap.size + 3 ≤ w6.heap.size) := Lib.hid (Nat.le_trans HZ5.out hw6.size)
  have HB36 := Lib.hid (hw6.heap HB35.out (fun h => h))
  have HB56 := Lib.hid (hw6.heap HB55.out (fun h => h))
  have HB66 := Lib.hid (hw6.heap HB65.out (fun h => h))
  clear hw6 HB35 HB55 HB65 HAT k0 k1 k2 l0 l1 l2
  rcases hat with ⟨hs, rfl⟩ | ⟨x, r0, hs, rfl, hr0⟩
  · have HV := Lib.hid (HF1'.out hs)
    have H7 := Lib.hid (H6.out.alloc (.cells #[.string ⟨#[]⟩, .string ⟨#[]⟩, .slice none 0 0] 24))
    have HB67 := Lib.hid (allocOld HB66.out (.cells #[.string ⟨#[]⟩, .string ⟨#[]⟩, .slice none 0 0] 24))
    clear hs HF2' HF1'
    have f2 := fun i => frozenRow HB67.out i
    have d0 := cellRow HB67.out 0 (.string ⟨#[]⟩) rfl
    have d1 := cellRow HB67.out 1 (.string ⟨#[]⟩) rfl
    have d2 := cellRow HB67.out 2 (.slice none 0 0) rfl
    go_wp2_with fail
    have hr := st3_heap HB67.out (.string ⟨#[]⟩) (.string ⟨#[]⟩) (.slice none 0 0)
    have hu := st3_upd' (w6.alloc (.cells #[.string ⟨#[]⟩, .string ⟨#[]⟩, .slice none 0 0] 24)) (w.heap.size + 2) (.string ⟨#[]⟩) (.string ⟨#[]⟩) (.slice none 0 0)
    have e0 := cellRow hr 0 (.string ⟨#[]⟩) rfl
    have e1 := cellRow hr 1 (.string ⟨#[]⟩) rfl
    have e2 := cellRow hr 2 (.slice none 0 0) rfl
    refine bodyPost_ret (v := .tuple #[.agg #[.string ⟨#[]⟩, .string ⟨#[]⟩, .slice none 0 0], .int .i64 2]) (by simp [results, Tryz.results13, go_sem, e0, e1, e2]) rfl ⟨.slice none 0 0, by rw [HV.out]; rfl, by rw [HV.out]; exact TlR.nil _ _, H7.out.trans' hu (fun j hj e => by omega)⟩
  have HF3 := Lib.hid (HF2'.out x hs)
  have hok := (subI_ok hs).1
  have hcb := cast_back hs
  obtain ⟨xa, xc, hxs⟩ := hr0.shape
  subst hxs
  have hz7 := (Upd.refl (fun _ => False) w6).alloc (.cells #[.string x.name, .string x.sort, .slice xa x.kids.length xc] 24)
  have H7 := Lib.hid (H6.out.trans hz7)
  have HZ7 : Hid (w.heap.size + 3 ≤ (w6.alloc (.cells #[.string x.name, .string x.sort, .slice xa x.kids.length xc] 24)).heap.size) := Lib.hid (Nat.le_trans HZ6.out hz7.size)
  have HB37 := Lib.hid (hz7.heap HB36.out (fun h => h))
  have HB57 := Lib.hid (hz7.heap HB56.out (fun h => h))
  have HB67 := Lib.hid (hz7.heap HB66.out (fun h => h))
  have k0 := cellRow HB37.out 0 (.string t.name) rfl
  have k1 := cellRow HB37.out 1 (.string t.sort) rfl
  have k2 := cellRow HB37.out 2 (.slice a t.kids.length cap) rfl
  have l0 := cellRow HB57.out 0 (.string u.name) rfl
  have l1 := cellRow HB57.out 1 (.string u.sort) rfl
  have l2 := cellRow HB57.out 2 (.slice ua u.kids.length uc) rfl
  obtain ⟨q, hq⟩ : ∃ q, p.map Int.toNat = q := ⟨_, rfl⟩
  have hql : q.length = p.length := by rw [← hq, List.length_map]
  rw [hq] at hok hcb HF3
  have hPQ : SlR (fun k => k < (w6.alloc (.cells #[.string x.name, .string x.sort, .slice xa x.kids.length xc] 24)).heap.size) (w6.alloc (.cells #[.string x.name, .string x.sort, .slice xa x.kids.length xc] 24)) 1 (.slice pa p.length pc) q.length (q.map fun i : Nat => Value.int .i64 (i : Int)) := by
    rw [hcb, hql]
    exact SlR.weaken (HP.out.kept H7.out (fun _ _ h => h)) (fun k hk => Nat.lt_of_lt_of_le hk H7.out.size)
  have HPT := Lib.hid (put02_x u q t (.agg #[.string t.name, .string t.sort, .slice a t.kids.length cap]) (.slice pa p.length pc) (.agg #[.string u.name, .string u.sort, .slice ua u.kids.length uc]) (fun k => k < w.heap.size) (w6.alloc (.cells #[.string x.name, .string x.sort, .slice xa x.kids.length xc] 24)) (TmR.of (HT.out.ext H7.out)) (TmR.of (HU.out.ext H7.out)) (fun k hk => Nat.lt_of_lt_of_le hk H7.out.size) hPQ hok hsz (by omega))
  clear hs hok hcb hr0 hz7 hq hPQ HF1' HF2' HB36 HB56 HB66 H6
  go_wp2_with fail
  refine HPT.out.mono ?_
  rintro e w8 ⟨r, rfl, hr, hw8⟩
  obtain ⟨o, ho⟩ : ∃ o, putAt t q u = o := ⟨_, rfl⟩
  rw [ho] at HF3 hr ⊢
  obtain ⟨oa, oc, hos⟩ := hr.shape
  subst hos
  have hz9 := (Upd.refl (fun _ => False) w8).alloc (.cells #[.string o.name, .string o.sort, .slice oa o.kids.length oc] 24)
  have H9 := Lib.hid ((H7.out.trans hw8).trans hz9)
  have HB69 := Lib.hid (hz9.heap (hw8.heap HB67.out (fun h => h)) (fun h => h))
  have HBX9 := Lib.hid (alloc0 w8 (.cells #[.string o.name, .string o.sort, .slice oa o.kids.length oc] 24))
  have HO9 : Hid (TlR (fun k => k < (w8.alloc (.cells #[.string o.name, .string o.sort, .slice oa o.kids.length oc] 24)).heap.size ∧ k ≠ w.heap.size + 2) (w8.alloc (.cells #[.string o.name, .string o.sort, .slice oa o.kids.length oc] 24)) o.kids (.slice oa o.kids.length oc)) := Lib.hid ((hr.ext hz9).weaken (fun k hk => by
    have h1 := H9.out.size
    have h2 := hz9.size
    have h3 := HZ7.out
    rcases hk with hk | hk
    · omega
    · omega))
  clear HPT hr hw8 hz9 ho k0 k1 k2 l0 l1 l2 H7 HB37 HB57 HB67
  have k0 := cellRow HBX9.out 0 (.string o.name) rfl
  have k1 := cellRow HBX9.out 1 (.string o.sort) rfl
  have k2 := cellRow HBX9.out 2 (.slice oa o.kids.length oc) rfl
  have HSM := Lib.hid (small_x o 1 1000 (.agg #[.string o.name, .string o.sort, .slice oa o.kids.length oc]) _ (w8.alloc (.cells #[.string o.name, .string o.sort, .slice oa o.kids.length oc] 24)) (TmR.of HO9.out) (by omega) (by omega) (by omega))
  have HSF := Lib.hid (small_formed nmB o)
  have HWF : Hid (wf nmB o = (formed nmB o && (sortsT o).isSome)) := Lib.hid rfl
  go_wp2_with fail
  generalize w8.alloc (.cells #[.string o.name, .string o.sort, .slice oa o.kids.length oc] 24) = w9 at *
  refine HSM.out.mono ?_
  rintro e wa ⟨rfl, hwa⟩
  have Ha := Lib.hid (H9.out.trans hwa)
  have HB6a := Lib.hid (hwa.heap HB69.out (fun h => h))
  have HBXa := Lib.hid (hwa.heap HBX9.out (fun h => h))
  have HOa : Hid (TlR (fun k => k < wa.heap.size ∧ k ≠ w.heap.size + 2) wa o.kids (.slice oa o.kids.length oc)) := Lib.hid ((HO9.out.ext hwa).weaken (fun k hk => ⟨Nat.lt_of_lt_of_le hk.1 hwa.size, hk.2⟩))
  clear hwa HSM HB69 HBX9 HO9 k0 k1 k2 H9
  have k0 := cellRow HBXa.out 0 (.string o.name) rfl
  have k1 := cellRow HBXa.out 1 (.string o.sort) rfl
  have k2 := cellRow HBXa.out 2 (.slice oa o.kids.length oc) rfl
  cases hf : formed nmB o
  · have z1 : small nmB 1 1000 o < 0 := by
      have h1 := HSF.out
      rw [hf] at h1
      have := of_decide_eq_false h1.symm
      omega
    have z2 : decide (small nmB 1 1000 o < 0) = true := decide_eq_true z1
    have HV : Hid (F = (nulT, 4)) := Lib.hid (by rw [HF3.out, if_pos hf])
    clear hf HSF HF3 HWF
    generalize small nmB 1 1000 o = R at *
    have f2 := fun i => frozenRow HB6a.out i
    have d0 := cellRow HB6a.out 0 (.string ⟨#[]⟩) rfl
    have d1 := cellRow HB6a.out 1 (.string ⟨#[]⟩) rfl
    have d2 := cellRow HB6a.out 2 (.slice none 0 0) rfl
    go_wp2_with fail
    have hr := st3_heap HB6a.out (.string ⟨#[]⟩) (.string ⟨#[]⟩) (.slice none 0 0)
    have hu := st3_upd' wa (w.heap.size + 2) (.string ⟨#[]⟩) (.string ⟨#[]⟩) (.slice none 0 0)
    have e0 := cellRow hr 0 (.string ⟨#[]⟩) rfl
    have e1 := cellRow hr 1 (.string ⟨#[]⟩) rfl
    have e2 := cellRow hr 2 (.slice none 0 0) rfl
    refine bodyPost_ret (v := .tuple #[.agg #[.string ⟨#[]⟩, .string ⟨#[]⟩, .slice none 0 0], .int .i64 4]) (by simp [results, Tryz.results13, go_sem, e0, e1, e2]) rfl ⟨.slice none 0 0, by rw [HV.out]; rfl, by rw [HV.out]; exact TlR.nil _ _, Ha.out.trans' hu (fun j hj e => by omega)⟩
  have z1 : ¬ (small nmB 1 1000 o < 0) := by
    have h1 := HSF.out
    rw [hf] at h1
    have := of_decide_eq_true h1.symm
    omega
  have z2 : decide (small nmB 1 1000 o < 0) = false := decide_eq_false z1
  have HF4 : Hid (F = if (sortsT o).isSome = false then (nulT, 11) else (o, 0)) := Lib.hid (by rw [HF3.out, if_neg (by rw [hf]; simp)])
  have hwf := HWF.out
  rw [hf, Bool.true_and] at hwf
  have HWS := Lib.hid hwf
  clear hf HSF HF3 HWF hwf
  generalize small nmB 1 1000 o = R at *
  have HWO := Lib.hid (rformed_x o (.agg #[.string o.name, .string o.sort, .slice oa o.kids.length oc]) _ wa (TmR.of HOa.out))
  rw [HWS.out] at HWO
  go_wp2_with fail
  refine HWO.out.mono ?_
  rintro e wb ⟨rfl, hwb⟩
  have Hb := Lib.hid (Ha.out.trans hwb)
  have HB6b := Lib.hid (hwb.heap HB6a.out (fun h => h))
  have HBXb := Lib.hid (hwb.heap HBXa.out (fun h => h))
  have HOb : Hid (TlR (fun k => k < wb.heap.size ∧ k ≠ w.heap.size + 2) wb o.kids (.slice oa o.kids.length oc)) := Lib.hid ((HOa.out.ext hwb).weaken (fun k hk => ⟨Nat.lt_of_lt_of_le hk.1 hwb.size, hk.2⟩))
  clear hwb HWO HB6a HBXa HOa k0 k1 k2 Ha HWS
  have k0 := cellRow HBXb.out 0 (.string o.name) rfl
  have k1 := cellRow HBXb.out 1 (.string o.sort) rfl
  have k2 := cellRow HBXb.out 2 (.slice oa o.kids.length oc) rfl
  cases hso : (sortsT o).isSome
  · have HV : Hid (F = (nulT, 11)) := Lib.hid (by rw [HF4.out, if_pos hso])
    clear hso HF4
    have f2 := fun i => frozenRow HB6b.out i
    have d0 := cellRow HB6b.out 0 (.string ⟨#[]⟩) rfl
    have d1 := cellRow HB6b.out 1 (.string ⟨#[]⟩) rfl
    have d2 := cellRow HB6b.out 2 (.slice none 0 0) rfl
    go_wp2_with fail
    have hr := st3_heap HB6b.out (.string ⟨#[]⟩) (.string ⟨#[]⟩) (.slice none 0 0)
    have hu := st3_upd' wb (w.heap.size + 2) (.string ⟨#[]⟩) (.string ⟨#[]⟩) (.slice none 0 0)
    have e0 := cellRow hr 0 (.string ⟨#[]⟩) rfl
    have e1 := cellRow hr 1 (.string ⟨#[]⟩) rfl
    have e2 := cellRow hr 2 (.slice none 0 0) rfl
    refine bodyPost_ret (v := .tuple #[.agg #[.string ⟨#[]⟩, .string ⟨#[]⟩, .slice none 0 0], .int .i64 11]) (by simp [results, Tryz.results13, go_sem, e0, e1, e2]) rfl ⟨.slice none 0 0, by rw [HV.out]; rfl, by rw [HV.out]; exact TlR.nil _ _, Hb.out.trans' hu (fun j hj e => by omega)⟩
  have HV : Hid (F = (o, 0)) := Lib.hid (by rw [HF4.out, if_neg (by rw [hso]; simp)])
  clear hso HF4
  have f2 := fun i => frozenRow HB6b.out i
  have d0 := cellRow HB6b.out 0 (.string ⟨#[]⟩) rfl
  have d1 := cellRow HB6b.out 1 (.string ⟨#[]⟩) rfl
  have d2 := cellRow HB6b.out 2 (.slice none 0 0) rfl
  go_wp2_with fail
  have hr := st3_heap HB6b.out (.string o.name) (.string o.sort) (.slice oa o.kids.length oc)
  have hu := st3_upd' wb (w.heap.size + 2) (.string o.name) (.string o.sort) (.slice oa o.kids.length oc)
  have e0 := cellRow hr 0 (.string o.name) rfl
  have e1 := cellRow hr 1 (.string o.sort) rfl
  have e2 := cellRow hr 2 (.slice oa o.kids.length oc) rfl
  have hE := Hb.out.trans' hu (fun j hj e => by omega)
  refine bodyPost_ret (v := .tuple #[.agg #[.string o.name, .string o.sort, .slice oa o.kids.length oc], .int .i64 0]) (by simp [results, Tryz.results13, go_sem, e0, e1, e2]) rfl ⟨.slice oa o.kids.length oc, by rw [HV.out], ?_, hE⟩
  rw [HV.out]
  exact (HOb.out.kept hu (fun k hk => hk.2)).weaken (fun k hk => Nat.lt_of_lt_of_le hk.1 hu.size)

end Go.Proofs.YtjjaknmnhhfjeaaGreatDoor

/- The law TermPaths. -/
namespace Go.Proofs.YtjjaknmnhhfjeaaGreatDoor
open Go.RowKit Go.Hw Go Go.Sort Go.Proofs Go.ChangeMaps
set_option linter.unusedVariables false
set_option linter.unusedSimpArgs false

open Tm
theorem nodesD_depth : ∀ (t : Tm) (d N : Nat), (∀ p ∈ nodesD d t, p.2 ≤ N) ↔ d + t.depth ≤ N + 1 := by
  refine Tm.ind (fun n s L ih => ?_)
  intro d N
  rw [nodesD_eq, depth_eq]
  simp only [Tm.kids]
  have key : ∀ (L : List Tm) (d : Nat), (∀ x ∈ L, ∀ d N, (∀ p ∈ nodesD d x, p.2 ≤ N) ↔ d + x.depth ≤ N + 1) → d ≤ N + 1 → ((∀ p ∈ nodesDs d L, p.2 ≤ N) ↔ d + depths L ≤ N + 1) := by
    intro L
    induction L with
    | nil => intro d _ hd; exact ⟨fun _ => by simpa [depths] using hd, fun _ p hp => by cases hp⟩
    | cons a L ihL =>
      intro d hx hd
      have h1 := hx a (List.mem_cons_self ..) d N
      have h2 := ihL d (fun x hx' => hx x (List.mem_cons_of_mem _ hx')) hd
      simp only [nodesDs, depths]
      constructor
      · intro h
        have g1 := h1.1 (fun p hp => h p (List.mem_append_left _ hp))
        have g2 := h2.1 (fun p hp => h p (List.mem_append_right _ hp))
        omega
      · intro h p hp
        rcases List.mem_append.1 hp with hp | hp
        · exact h1.2 (by omega) p hp
        · exact h2.2 (by omega) p hp
  constructor
  · intro h
    have h0 : d ≤ N := h _ (List.mem_cons_self ..)
    have := (key L (d + 1) ih (by omega)).1 (fun p hp => h p (List.mem_cons_of_mem _ hp))
    omega
  · intro h p hp
    rcases List.mem_cons.1 hp with e | hp
    · rw [e]; show d ≤ N; omega
    · exact (key L (d + 1) ih (by omega)).2 (by omega) p hp

theorem tl1_row {S : Nat → Prop} {W : World} {n te : Nat} {fz : Nat × Nat} {a : Tm} {ua : Value} (h : W.heap[n]? = some (.cells #[.string a.name, .string a.sort, ua] te fz)) (hn : S n) (ha : TlR S W a.kids ua) : TlR S W [a] (.slice (some ⟨n, 0, none⟩) 1 1) := by
  refine .mk _ [ua] _ rfl ?_ (fun i hi => ?_)
  · refine SlR.mk' rfl rfl (Nat.le_refl _) (fun _ => hn) (fun j hj => ?_)
    have hj3 : j < 3 := hj
    rw [Nat.zero_add, cell_of_row W n j _ _ _ h]
    rcases (by omega : j = 0 ∨ j = 1 ∨ j = 2) with rfl | rfl | rfl <;> rfl
  · obtain rfl : i = 0 := by simpa using hi
    exact ha
theorem tl2_row {S : Nat → Prop} {W : World} {n te : Nat} {fz : Nat × Nat} {a b : Tm} {ua ub : Value} (h : W.heap[n]? = some (.cells #[.string a.name, .string a.sort, ua, .string b.name, .string b.sort, ub] te fz)) (hn : S n) (ha : TlR S W a.kids ua) (hb : TlR S W b.kids ub) : TlR S W [a, b] (.slice (some ⟨n, 0, none⟩) 2 2) := by
  refine .mk _ [ua, ub] _ rfl ?_ (fun i hi => ?_)
  · refine SlR.mk' rfl rfl (Nat.le_refl _) (fun _ => hn) (fun j hj => ?_)
    have hj3 : j < 6 := hj
    rw [Nat.zero_add, cell_of_row W n j _ _ _ h]
    rcases (by omega : j = 0 ∨ j = 1 ∨ j = 2 ∨ j = 3 ∨ j = 4 ∨ j = 5) with rfl | rfl | rfl | rfl | rfl | rfl <;> rfl
  · have hi2 : i < 2 := hi
    rcases (by omega : i = 0 ∨ i = 1) with rfl | rfl
    · exact ha
    · exact hb
theorem kup {w w' : World} {L : List Tm} {v : Value} (h : TlR (fun k => k < w.heap.size) w L v) (hE : Ext w w') : TlR (fun k => k < w'.heap.size) w' L v := (h.ext hE).weaken (fun k hk => Nat.lt_of_lt_of_le hk hE.size)
theorem bgs_size : ∀ (L : List Tm) (i : Int), 0 ≤ bgs L i → (sizes L : Int) + bgs L i ≤ i
  | [], i, h => by simp [sizes, bgs]
  | x :: L, i, h => by
    have e : bgs (x :: L) i = bgs L (bgT x 80 i) := rfl
    rw [e] at h ⊢
    have ih := bgs_size L _ h
    have h1 := (bgT_le x 80 i).1 (by omega)
    simp only [sizes]
    omega
theorem big_all {L : List Tm} (h : bigF L = false) : sizes L ≤ 1100 := by
  have h1 := of_decide_eq_false h
  have h2 := bgs_size L 1100 (by omega)
  omega
theorem nul_big : bigF [nulT] = false := by decide +kernel
theorem wf_big {t : Tm} (h : wf nmB t = true) : bigF [t] = false := by
  obtain ⟨h1, h3⟩ := formed_nd (wf_formed h)
  have h2 : 1 + t.depth ≤ 60 + 1 := (nodesD_depth t 1 60).1 (fun p hp => by
    have h4 := ((formed_iff nmB t).1 (wf_formed h)).2 p hp
    unfold okN at h4
    simp only [Bool.and_eq_true, Bool.or_eq_true, decide_eq_true_eq] at h4
    exact h4.1)
  unfold bigF bgs
  show decide (bgT t 80 1100 < 0) = false
  rw [bgT_small t 80 1100 (by omega) (by omega) (fun x hx => by
    obtain ⟨g1, g2, g3⟩ := h3 x hx
    have k1 := nm_size g1
    refine ⟨by omega, ?_, by omega⟩
    rcases g3 with g3 | g3
    · rw [g3]; decide
    · have := nm_size g3.1; omega)]
  exact decide_eq_false (by omega)
theorem at_nb (t : Tm) (p : List Int) : bigF [(atF t p).1] = false := by
  unfold atF
  cases h : wf nmB t with
  | false => rw [if_pos rfl]; exact nul_big
  | true =>
    rw [if_neg (by simp)]
    cases h2 : subI t p with
    | none => exact nul_big
    | some x =>
      obtain ⟨h3, h4⟩ := subI_ok h2
      show bigF [x] = false
      rw [← h4]
      exact wf_big (wf_tmAt h h3)
theorem rep_nb (t : Tm) (p : List Int) (u : Tm) : bigF [(repF t p u).1] = false := by
  unfold repF
  split
  · exact nul_big
  · split
    · exact nul_big
    · split
      · exact nul_big
      · split
        · exact nul_big
        · rename_i h1 h2
          refine wf_big ?_
          unfold wf
          rw [Bool.and_eq_true]
          exact ⟨by simpa using h1, by cases hh : (sortsT (putAt t (p.map Int.toNat) u)).isSome with | true => rfl | false => exact absurd hh h2⟩
set_option maxRecDepth 100000 in
set_option maxHeartbeats 2000000 in
theorem paths_law (t : Tm) (p : List Int) (u : Tm) (tv pv uv : Value) (w : World) (hT : TmR (fun k => k < w.heap.size) w t tv) (hP : SlR (fun k => k < w.heap.size) w 1 pv p.length (p.map (Value.int .i64))) (hU : TmR (fun k => k < w.heap.size) w u uv) (htab : AscT w) :
    Calls Tryz.prog 3 #[tv, pv, uv] w fun e w' => e = .returned (.bool true) ∧ Ext w w' := by
  obtain ⟨pa, pc, rfl⟩ := SlR.shape hP
  have HP := Lib.hid hP
  obtain ⟨a, cap, rfl, hT⟩ := hT
  obtain ⟨ua, uc, rfl, hU⟩ := hU
  have HT := Lib.hid hT
  have HU := Lib.hid hU
  have HTAB := Lib.hid htab
  have HAW := Lib.hid (fun W (hW : Ext w W) => awake_x W (asc_ext htab hW))
  have HE1 := Lib.hid (((Upd.refl (fun _ => False) w).alloc (.cells #[.string t.name, .string t.sort, .slice a t.kids.length cap] 24)).alloc (.cells #[.string u.name, .string u.sort, .slice ua u.kids.length uc] 24))
  have HT1 := Lib.hid (allocOld (alloc0 w (.cells #[.string t.name, .string t.sort, .slice a t.kids.length cap] 24)) (.cells #[.string u.name, .string u.sort, .slice ua u.kids.length uc] 24))
  have HU1 := Lib.hid (alloc_at (w.alloc (.cells #[.string t.name, .string t.sort, .slice a t.kids.length cap] 24)) (.cells #[.string u.name, .string u.sort, .slice ua u.kids.length uc] 24) (n := w.heap.size + 1) (by simp))
  dsimp only [tV]
  clear hT hU hP htab
  have t0 := cellRow HT1.out 0 (.string t.name) rfl
  have t1 := cellRow HT1.out 1 (.string t.sort) rfl
  have t2 := cellRow HT1.out 2 (.slice a t.kids.length cap) rfl
  go_enter Tryz.func3, Tryz.ntmps3
  go_wp2_with fail
  generalize (w.alloc (.cells #[.string t.name, .string t.sort, .slice a t.kids.length cap] 24)).alloc (.cells #[.string u.name, .string u.sort, .slice ua u.kids.length uc] 24) = w1 at *
  refine (HAW.out _ HE1.out).mono ?_
  rintro e w2 ⟨rfl, h⟩
  clear t0 t1 t2
  have HE2 := Lib.hid (HE1.out.trans h)
  have HT2 := Lib.hid (h.heap HT1.out (fun h => h))
  have HU2 := Lib.hid (h.heap HU1.out (fun h => h))
  clear h HE1 HT1 HU1 
  clear HAW
  have t0 := cellRow HT2.out 0 (.string t.name) rfl
  have t1 := cellRow HT2.out 1 (.string t.sort) rfl
  have t2 := cellRow HT2.out 2 (.slice a t.kids.length cap) rfl
  have u0 := cellRow HU2.out 0 (.string u.name) rfl
  have u1 := cellRow HU2.out 1 (.string u.sort) rfl
  have u2 := cellRow HU2.out 2 (.slice ua u.kids.length uc) rfl
  have HC := Lib.hid (alloc0 w2 (.cells #[.string t.name, .string t.sort, .slice a t.kids.length cap, .string u.name, .string u.sort, .slice ua u.kids.length uc] 24))
  have hz := (Upd.refl (fun _ => False) w2).alloc (.cells #[.string t.name, .string t.sort, .slice a t.kids.length cap, .string u.name, .string u.sort, .slice ua u.kids.length uc] 24)
  have HE2a := Lib.hid (HE2.out.trans hz)
  have HT2a := Lib.hid (hz.heap HT2.out (fun h => h))
  have HU2a := Lib.hid (hz.heap HU2.out (fun h => h))
  clear hz HE2 HT2 HU2 
  have HBG := Lib.hid (big_x [t, u] (.slice (some ⟨w2.heap.size, 0, none⟩) 2 2) (fun k => k < (w2.alloc (.cells #[.string t.name, .string t.sort, .slice a t.kids.length cap, .string u.name, .string u.sort, .slice ua u.kids.length uc] 24)).heap.size) (w2.alloc (.cells #[.string t.name, .string t.sort, .slice a t.kids.length cap, .string u.name, .string u.sort, .slice ua u.kids.length uc] 24)) (tl2_row HC.out (by simp) ((HT.out.ext HE2a.out).weaken (fun k hk => Nat.lt_of_lt_of_le hk HE2a.out.size)) ((HU.out.ext HE2a.out).weaken (fun k hk => Nat.lt_of_lt_of_le hk HE2a.out.size))) (fun k hk => hk) (by simp))
  go_wp2_with fail
  refine HBG.out.mono ?_
  rintro e w3 ⟨rfl, h⟩
  clear t0 t1 t2 u0 u1 u2
  have HE3 := Lib.hid (HE2a.out.trans h)
  have HT3 := Lib.hid (h.heap HT2a.out (fun h => h))
  have HU3 := Lib.hid (h.heap HU2a.out (fun h => h))
  clear h HE2a HT2a HU2a 
  clear HBG HC
  cases hbg : bigF [t, u]
  case true =>
    clear hbg
    go_wp2_with fail
    refine bodyPost_ret (v := .bool true) (by simp [results, Tryz.results3, go_sem]) rfl ?_
    exact ⟨rfl, HE3.out⟩
  case false =>
    have hsz := big_all hbg
    have hsz2 : t.size + u.size ≤ 1100 := by simp only [sizes] at hsz; omega
    clear hbg hsz
    by_cases hpl : 80 < p.length
    · have z1 : (80 : Int) < (p.length : Int) := by omega
      have z2 : decide ((80 : Int) < (p.length : Int)) = true := decide_eq_true z1
      go_wp2_with fail
      refine bodyPost_ret (v := .bool true) (by simp [results, Tryz.results3, go_sem]) rfl ?_
      exact ⟨rfl, HE3.out⟩
    have z1 : ¬ ((80 : Int) < (p.length : Int)) := by omega
    have z2 : decide ((80 : Int) < (p.length : Int)) = false := decide_eq_false z1
    -- At
    have HAT := Lib.hid (At_x t p (.agg #[.string t.name, .string t.sort, .slice a t.kids.length cap]) (.slice pa p.length pc) (fun k => k < w.heap.size) (fun k => k < w.heap.size) w3 (TmR.of (HT.out.ext HE3.out)) (fun k hk => Nat.lt_of_lt_of_le hk HE3.out.size) (SlR.kept HP.out HE3.out (fun _ _ h => h)) (asc_ext HTAB.out HE3.out) (by omega) (by omega))
    have t0 := cellRow HT3.out 0 (.string t.name) rfl
    have t1 := cellRow HT3.out 1 (.string t.sort) rfl
    have t2 := cellRow HT3.out 2 (.slice a t.kids.length cap) rfl
    go_wp2_with fail
    refine HAT.out.mono ?_
    obtain ⟨x, hx⟩ : ∃ x, (atF t p).1 = x := ⟨_, rfl⟩
    obtain ⟨ex, hex⟩ : ∃ x, (atF t p).2 = x := ⟨_, rfl⟩
    have HX0 : Hid (wf nmB t = false → x = nulT ∧ ex = 1) := Lib.hid (fun h => by rw [← hx, ← hex]; unfold atF; rw [if_pos h]; exact ⟨rfl, rfl⟩)
    have HX1 : Hid (wf nmB t = true → subI t p = none → x = nulT ∧ ex = 2) := Lib.hid (fun h h2 => by rw [← hx, ← hex]; unfold atF; rw [if_neg (by rw [h]; simp), h2]; exact ⟨rfl, rfl⟩)
    have HX2 : Hid (wf nmB t = true → ∀ z, subI t p = some z → x = z ∧ ex = 0) := Lib.hid (fun h z h2 => by rw [← hx, ← hex]; unfold atF; rw [if_neg (by rw [h]; simp), h2]; exact ⟨rfl, rfl⟩)
    have HXB : Hid (bigF [x] = false) := Lib.hid (by rw [← hx]; exact at_nb t p)
    rw [hx, hex]
    clear hx hex
    rintro e w4 ⟨r, rfl, KX4, h⟩
    obtain ⟨xa, xc, hr⟩ := KX4.shape
    subst hr
    have KX4 := Lib.hid (KX4.weaken (fun k hk => hk.2))
    clear t0 t1 t2
    have HE4 := Lib.hid (HE3.out.trans h)
    have HT4 := Lib.hid (h.heap HT3.out (fun h => h))
    have HU4 := Lib.hid (h.heap HU3.out (fun h => h))
    clear h HE3 HT3 HU3 
    have hz := (Upd.refl (fun _ => False) w4).alloc (.cells #[.string x.name, .string x.sort, .slice xa x.kids.length xc] 24)
    have HX5 := Lib.hid (alloc0 w4 (.cells #[.string x.name, .string x.sort, .slice xa x.kids.length xc] 24))
    have HE5 := Lib.hid (HE4.out.trans hz)
    have HT5 := Lib.hid (hz.heap HT4.out (fun h => h))
    have HU5 := Lib.hid (hz.heap HU4.out (fun h => h))
    have KX5 := Lib.hid (kup KX4.out hz)
    clear hz HE4 HT4 HU4 KX4
    clear HAT z1 z2
    -- Replace
    have HRP := Lib.hid (Replace_x t u p (.agg #[.string t.name, .string t.sort, .slice a t.kids.length cap]) (.agg #[.string u.name, .string u.sort, .slice ua u.kids.length uc]) (.slice pa p.length pc) (fun k => k < w.heap.size) (fun k => k < w.heap.size) (w4.alloc (.cells #[.string x.name, .string x.sort, .slice xa x.kids.length xc] 24)) (TmR.of (HT.out.ext HE5.out)) (TmR.of (HU.out.ext HE5.out)) (fun k hk => Nat.lt_of_lt_of_le hk HE5.out.size) (SlR.kept HP.out HE5.out (fun _ _ h => h)) (asc_ext HTAB.out HE5.out) (by omega) (by omega) (by omega))
    have t0 := cellRow HT5.out 0 (.string t.name) rfl
    have t1 := cellRow HT5.out 1 (.string t.sort) rfl
    have t2 := cellRow HT5.out 2 (.slice a t.kids.length cap) rfl
    have u0 := cellRow HU5.out 0 (.string u.name) rfl
    have u1 := cellRow HU5.out 1 (.string u.sort) rfl
    have u2 := cellRow HU5.out 2 (.slice ua u.kids.length uc) rfl
    go_wp2_with fail
    refine HRP.out.mono ?_
    have HYB := Lib.hid (rep_nb t p u)
    obtain ⟨yy, hy⟩ : ∃ x, repF t p u = x := ⟨_, rfl⟩
    have HYY := Lib.hid hy
    rw [hy] at HYB ⊢
    clear hy
    obtain ⟨y, ey⟩ := yy
    dsimp only at HYB ⊢
    rintro e w6 ⟨r, rfl, KY6, h⟩
    obtain ⟨ya, yc, hr⟩ := KY6.shape
    subst hr
    have KY6 := Lib.hid (KY6.weaken (fun k hk => hk.2))
    clear t0 t1 t2 u0 u1 u2
    have HE6 := Lib.hid (HE5.out.trans h)
    have HT6 := Lib.hid (h.heap HT5.out (fun h => h))
    have HU6 := Lib.hid (h.heap HU5.out (fun h => h))
    have HX6 := Lib.hid (h.heap HX5.out (fun h => h))
    have KX6 := Lib.hid (kup KX5.out h)
    clear h HE5 HT5 HU5 HX5 KX5
    have hz := (Upd.refl (fun _ => False) w6).alloc (.cells #[.string y.name, .string y.sort, .slice ya y.kids.length yc] 24)
    have HY7 := Lib.hid (alloc0 w6 (.cells #[.string y.name, .string y.sort, .slice ya y.kids.length yc] 24))
    have HE7 := Lib.hid (HE6.out.trans hz)
    have HT7 := Lib.hid (hz.heap HT6.out (fun h => h))
    have HU7 := Lib.hid (hz.heap HU6.out (fun h => h))
    have HX7 := Lib.hid (hz.heap HX6.out (fun h => h))
    have KX7 := Lib.hid (kup KX6.out hz)
    have KY7 := Lib.hid (kup KY6.out hz)
    clear hz HE6 HT6 HU6 HX6 KX6 KY6
    clear HRP
    -- the reference's Replace
    have HRR := Lib.hid (rrepl_x t u p (.agg #[.string t.name, .string t.sort, .slice a t.kids.length cap]) (.agg #[.string u.name, .string u.sort, .slice ua u.kids.length uc]) (.slice pa p.length pc) (w6.alloc (.cells #[.string y.name, .string y.sort, .slice ya y.kids.length yc] 24)) (TmR.of ((HT.out.ext HE7.out).weaken (fun k hk => Nat.lt_of_lt_of_le hk HE7.out.size))) (TmR.of ((HU.out.ext HE7.out).weaken (fun k hk => Nat.lt_of_lt_of_le hk HE7.out.size))) (SlR.weaken (SlR.kept HP.out HE7.out (fun _ _ h => h)) (fun k hk => Nat.lt_of_lt_of_le hk HE7.out.size)) (by omega) (by omega))
    rw [HYY.out] at HRR
    dsimp only at HRR
    have t0 := cellRow HT7.out 0 (.string t.name) rfl
    have t1 := cellRow HT7.out 1 (.string t.sort) rfl
    have t2 := cellRow HT7.out 2 (.slice a t.kids.length cap) rfl
    have u0 := cellRow HU7.out 0 (.string u.name) rfl
    have u1 := cellRow HU7.out 1 (.string u.sort) rfl
    have u2 := cellRow HU7.out 2 (.slice ua u.kids.length uc) rfl
    go_wp2_with fail
    refine HRR.out.mono ?_
    rintro e w8 ⟨r, rfl, KZ8, h⟩
    obtain ⟨za, zc, hr⟩ := KZ8.shape
    subst hr
    have KZ8 := Lib.hid KZ8
    clear t0 t1 t2 u0 u1 u2
    have HE8 := Lib.hid (HE7.out.trans h)
    have HT8 := Lib.hid (h.heap HT7.out (fun h => h))
    have HU8 := Lib.hid (h.heap HU7.out (fun h => h))
    have HX8 := Lib.hid (h.heap HX7.out (fun h => h))
    have HY8 := Lib.hid (h.heap HY7.out (fun h => h))
    have KX8 := Lib.hid (kup KX7.out h)
    have KY8 := Lib.hid (kup KY7.out h)
    clear h HE7 HT7 HU7 HX7 HY7 KX7 KY7
    have hz := (Upd.refl (fun _ => False) w8).alloc (.cells #[.string y.name, .string y.sort, .slice za y.kids.length zc] 24)
    have HZ9 := Lib.hid (alloc0 w8 (.cells #[.string y.name, .string y.sort, .slice za y.kids.length zc] 24))
    have HE9 := Lib.hid (HE8.out.trans hz)
    have HT9 := Lib.hid (hz.heap HT8.out (fun h => h))
    have HU9 := Lib.hid (hz.heap HU8.out (fun h => h))
    have HX9 := Lib.hid (hz.heap HX8.out (fun h => h))
    have HY9 := Lib.hid (hz.heap HY8.out (fun h => h))
    have KX9 := Lib.hid (kup KX8.out hz)
    have KY9 := Lib.hid (kup KY8.out hz)
    have KZ9 := Lib.hid (kup KZ8.out hz)
    clear hz HE8 HT8 HU8 HX8 HY8 KX8 KY8 KZ8
    clear HRR HYY HU
    -- big x, big y
    have x0 := cellRow HX9.out 0 (.string x.name) rfl
    have x1 := cellRow HX9.out 1 (.string x.sort) rfl
    have x2 := cellRow HX9.out 2 (.slice xa x.kids.length xc) rfl
    have HC := Lib.hid (alloc_at (w8.alloc (.cells #[.string y.name, .string y.sort, .slice za y.kids.length zc] 24)) (.cells #[.string x.name, .string x.sort, .slice xa x.kids.length xc] 24) (n := w8.heap.size + 1) (by simp))
    have hz := (Upd.refl (fun _ => False) (w8.alloc (.cells #[.string y.name, .string y.sort, .slice za y.kids.length zc] 24))).alloc (.cells #[.string x.name, .string x.sort, .slice xa x.kids.length xc] 24)
    have HE9a := Lib.hid (HE9.out.trans hz)
    have HT9a := Lib.hid (hz.heap HT9.out (fun h => h))
    have HX9a := Lib.hid (hz.heap HX9.out (fun h => h))
    have HY9a := Lib.hid (hz.heap HY9.out (fun h => h))
    have HZ9a := Lib.hid (hz.heap HZ9.out (fun h => h))
    have KX9a := Lib.hid (kup KX9.out hz)
    have KY9a := Lib.hid (kup KY9.out hz)
    have KZ9a := Lib.hid (kup KZ9.out hz)
    clear hz HE9 HT9 HX9 HY9 HZ9 KX9 KY9 KZ9
    have HBX := Lib.hid (big_x [x] (.slice (some ⟨w8.heap.size + 1, 0, none⟩) 1 1) (fun k => k < ((w8.alloc (.cells #[.string y.name, .string y.sort, .slice za y.kids.length zc] 24)).alloc (.cells #[.string x.name, .string x.sort, .slice xa x.kids.length xc] 24)).heap.size) ((w8.alloc (.cells #[.string y.name, .string y.sort, .slice za y.kids.length zc] 24)).alloc (.cells #[.string x.name, .string x.sort, .slice xa x.kids.length xc] 24)) (tl1_row HC.out (by simp) KX9a.out) (fun k hk => hk) (by simp))
    rw [HXB.out] at HBX
    go_wp2_with fail
    refine HBX.out.mono ?_
    rintro e w10 ⟨rfl, h⟩
    clear x0 x1 x2
    have HE10 := Lib.hid (HE9a.out.trans h)
    have HT10 := Lib.hid (h.heap HT9a.out (fun h => h))
    have HX10 := Lib.hid (h.heap HX9a.out (fun h => h))
    have HY10 := Lib.hid (h.heap HY9a.out (fun h => h))
    have HZ10 := Lib.hid (h.heap HZ9a.out (fun h => h))
    have KX10 := Lib.hid (kup KX9a.out h)
    have KY10 := Lib.hid (kup KY9a.out h)
    have KZ10 := Lib.hid (kup KZ9a.out h)
    clear h HE9a HT9a HX9a HY9a HZ9a KX9a KY9a KZ9a
    clear HBX HC
    have y0 := cellRow HY10.out 0 (.string y.name) rfl
    have y1 := cellRow HY10.out 1 (.string y.sort) rfl
    have y2 := cellRow HY10.out 2 (.slice ya y.kids.length yc) rfl
    have HC := Lib.hid (alloc0 w10 (.cells #[.string y.name, .string y.sort, .slice ya y.kids.length yc] 24))
    have hz := (Upd.refl (fun _ => False) w10).alloc (.cells #[.string y.name, .string y.sort, .slice ya y.kids.length yc] 24)
    have HE10a := Lib.hid (HE10.out.trans hz)
    have HT10a := Lib.hid (hz.heap HT10.out (fun h => h))
    have HX10a := Lib.hid (hz.heap HX10.out (fun h => h))
    have HY10a := Lib.hid (hz.heap HY10.out (fun h => h))
    have HZ10a := Lib.hid (hz.heap HZ10.out (fun h => h))
    have KX10a := Lib.hid (kup KX10.out hz)
    have KY10a := Lib.hid (kup KY10.out hz)
    have KZ10a := Lib.hid (kup KZ10.out hz)
    clear hz HE10 HT10 HX10 HY10 HZ10 KX10 KY10 KZ10
    have HBX := Lib.hid (big_x [y] (.slice (some ⟨w10.heap.size, 0, none⟩) 1 1) (fun k => k < (w10.alloc (.cells #[.string y.name, .string y.sort, .slice ya y.kids.length yc] 24)).heap.size) (w10.alloc (.cells #[.string y.name, .string y.sort, .slice ya y.kids.length yc] 24)) (tl1_row HC.out (by simp) KY10a.out) (fun k hk => hk) (by simp))
    rw [HYB.out] at HBX
    go_wp2_with fail
    refine HBX.out.mono ?_
    rintro e w11 ⟨rfl, h⟩
    clear y0 y1 y2
    have HE11 := Lib.hid (HE10a.out.trans h)
    have HT11 := Lib.hid (h.heap HT10a.out (fun h => h))
    have HX11 := Lib.hid (h.heap HX10a.out (fun h => h))
    have HY11 := Lib.hid (h.heap HY10a.out (fun h => h))
    have HZ11 := Lib.hid (h.heap HZ10a.out (fun h => h))
    have KX11 := Lib.hid (kup KX10a.out h)
    have KY11 := Lib.hid (kup KY10a.out h)
    have KZ11 := Lib.hid (kup KZ10a.out h)
    clear h HE10a HT10a HX10a HY10a HZ10a KX10a KY10a KZ10a
    clear HBX HC
    -- Same(y, z)
    have y0 := cellRow HY11.out 0 (.string y.name) rfl
    have y1 := cellRow HY11.out 1 (.string y.sort) rfl
    have y2 := cellRow HY11.out 2 (.slice ya y.kids.length yc) rfl
    have zz0 := cellRow HZ11.out 0 (.string y.name) rfl
    have zz1 := cellRow HZ11.out 1 (.string y.sort) rfl
    have zz2 := cellRow HZ11.out 2 (.slice za y.kids.length zc) rfl
    have HS1 := Lib.hid (same_x y y (.agg #[.string y.name, .string y.sort, .slice ya y.kids.length yc]) (.agg #[.string y.name, .string y.sort, .slice za y.kids.length zc]) _ _ w11 (TmR.of KY11.out) (TmR.of KZ11.out) (by have := big_small HYB.out; omega))
    rw [decide_eq_true (rfl : y = y)] at HS1
    go_wp2_with fail
    refine HS1.out.mono ?_
    rintro e w12 ⟨rfl, h⟩
    clear y0 y1 y2 zz0 zz1 zz2 HS1
    have HE12 := Lib.hid (HE11.out.trans h)
    have HT12 := Lib.hid (h.heap HT11.out (fun h => h))
    have HX12 := Lib.hid (h.heap HX11.out (fun h => h))
    have KX12 := Lib.hid (kup KX11.out h)
    clear h HE11 HT11 HX11 KX11
    clear HY11 HZ11 KY11 KZ11 HYB
    -- Formed(t)
    have t0 := cellRow HT12.out 0 (.string t.name) rfl
    have t1 := cellRow HT12.out 1 (.string t.sort) rfl
    have t2 := cellRow HT12.out 2 (.slice a t.kids.length cap) rfl
    have HFM := Lib.hid (rformed_x t (.agg #[.string t.name, .string t.sort, .slice a t.kids.length cap]) _ w12 (TmR.of (HT.out.ext HE12.out)))
    obtain ⟨WT, hWT⟩ : ∃ b, wf nmB t = b := ⟨_, rfl⟩
    rw [hWT] at HFM HX0 HX1 HX2
    clear hWT
    go_wp2_with fail
    refine HFM.out.mono ?_
    rintro e w13 ⟨rfl, h⟩
    clear t0 t1 t2
    have HE13 := Lib.hid (HE12.out.trans h)
    have HT13 := Lib.hid (h.heap HT12.out (fun h => h))
    have HX13 := Lib.hid (h.heap HX12.out (fun h => h))
    have KX13 := Lib.hid (kup KX12.out h)
    clear h HE12 HT12 HX12 KX12
    clear HFM
    cases WT
    · obtain ⟨hx, he⟩ := HX0.out (by simp)
      subst hx he
      have x0 := cellRow HX13.out 0 (.string nulT.name) rfl
      have x1 := cellRow HX13.out 1 (.string nulT.sort) rfl
      have x2 := cellRow HX13.out 2 (.slice xa nulT.kids.length xc) rfl
      have HZR := Lib.hid (zero_x nulT xa xc w13)
      go_wp2_with fail
      refine HZR.out.mono ?_
      rintro e w14 ⟨rfl, h⟩
      clear x0 x1 x2
      have HE14 := Lib.hid (HE13.out.trans h)
      have HT14 := Lib.hid (h.heap HT13.out (fun h => h))
      have HX14 := Lib.hid (h.heap HX13.out (fun h => h))
      have KX14 := Lib.hid (kup KX13.out h)
      clear h HE13 HT13 HX13 KX13
      go_wp2_with fail
      refine bodyPost_ret (v := .bool true) (by simp [results, Tryz.results3, go_sem]; exact ⟨⟨rfl, rfl⟩, rfl⟩) rfl ?_
      exact ⟨rfl, HE14.out⟩
    have HAR := Lib.hid (at02_x t p (.agg #[.string t.name, .string t.sort, .slice a t.kids.length cap]) (.slice pa p.length pc) (fun k => k < w.heap.size) (fun k => k < w.heap.size) w13 (TmR.of (HT.out.ext HE13.out)) (fun k hk => Nat.lt_of_lt_of_le hk HE13.out.size) (SlR.kept HP.out HE13.out (fun _ _ h => h)) (fun k hk => Nat.lt_of_lt_of_le hk HE13.out.size) (by omega))
    have t0 := cellRow HT13.out 0 (.string t.name) rfl
    have t1 := cellRow HT13.out 1 (.string t.sort) rfl
    have t2 := cellRow HT13.out 2 (.slice a t.kids.length cap) rfl
    go_wp2_with fail
    refine HAR.out.mono ?_
    rintro e w14 ⟨har, h⟩
    clear t0 t1 t2
    have HE14 := Lib.hid (HE13.out.trans h)
    have HT14 := Lib.hid (h.heap HT13.out (fun h => h))
    have HX14 := Lib.hid (h.heap HX13.out (fun h => h))
    have KX14 := Lib.hid (kup KX13.out h)
    clear h HE13 HT13 HX13 KX13
    clear HAR
    rcases har with ⟨hs, rfl⟩ | ⟨v, r, hs, rfl, KV14⟩
    · obtain ⟨hx, he⟩ := HX1.out (by simp) hs
      subst hx he
      clear hs
      have hz := (Upd.refl (fun _ => False) w14).alloc (.cells #[.string ⟨#[]⟩, .string ⟨#[]⟩, .slice none 0 0] 24)
      have HE15 := Lib.hid (HE14.out.trans hz)
      have HT15 := Lib.hid (hz.heap HT14.out (fun h => h))
      have HX15 := Lib.hid (hz.heap HX14.out (fun h => h))
      have KX15 := Lib.hid (kup KX14.out hz)
      clear hz HE14 HT14 HX14 KX14
      have x0 := cellRow HX15.out 0 (.string nulT.name) rfl
      have x1 := cellRow HX15.out 1 (.string nulT.sort) rfl
      have x2 := cellRow HX15.out 2 (.slice xa nulT.kids.length xc) rfl
      have HZR := Lib.hid (zero_x nulT xa xc (w14.alloc (.cells #[.string ⟨#[]⟩, .string ⟨#[]⟩, .slice none 0 0] 24)))
      go_wp2_with fail
      refine HZR.out.mono ?_
      rintro e w16 ⟨rfl, h⟩
      clear x0 x1 x2
      have HE16 := Lib.hid (HE15.out.trans h)
      have HT16 := Lib.hid (h.heap HT15.out (fun h => h))
      have HX16 := Lib.hid (h.heap HX15.out (fun h => h))
      have KX16 := Lib.hid (kup KX15.out h)
      clear h HE15 HT15 HX15 KX15
      go_wp2_with fail
      refine bodyPost_ret (v := .bool true) (by simp [results, Tryz.results3, go_sem]; exact ⟨⟨rfl, rfl⟩, rfl⟩) rfl ?_
      exact ⟨rfl, HE16.out⟩
    obtain ⟨hx, he⟩ := HX2.out (by simp) v hs
    subst hx he
    clear hs
    obtain ⟨va, vc, hr⟩ := KV14.shape
    subst hr
    have KV14 := Lib.hid KV14
    have hz := (Upd.refl (fun _ => False) w14).alloc (.cells #[.string x.name, .string x.sort, .slice va x.kids.length vc] 24)
    have HV15 := Lib.hid (alloc0 w14 (.cells #[.string x.name, .string x.sort, .slice va x.kids.length vc] 24))
    have KV15 := Lib.hid (KV14.out.ext hz)
    have HE15 := Lib.hid (HE14.out.trans hz)
    have HX15 := Lib.hid (hz.heap HX14.out (fun h => h))
    have KX15 := Lib.hid (kup KX14.out hz)
    clear hz HE14 HX14 KX14
    clear KV14
    have x0 := cellRow HX15.out 0 (.string x.name) rfl
    have x1 := cellRow HX15.out 1 (.string x.sort) rfl
    have x2 := cellRow HX15.out 2 (.slice xa x.kids.length xc) rfl
    have v0 := cellRow HV15.out 0 (.string x.name) rfl
    have v1 := cellRow HV15.out 1 (.string x.sort) rfl
    have v2 := cellRow HV15.out 2 (.slice va x.kids.length vc) rfl
    have HS1 := Lib.hid (same_x x x (.agg #[.string x.name, .string x.sort, .slice xa x.kids.length xc]) (.agg #[.string x.name, .string x.sort, .slice va x.kids.length vc]) _ _ (w14.alloc (.cells #[.string x.name, .string x.sort, .slice va x.kids.length vc] 24)) (TmR.of KX15.out) (TmR.of KV15.out) (by have := big_small HXB.out; omega))
    rw [decide_eq_true (rfl : x = x)] at HS1
    go_wp2_with fail
    refine HS1.out.mono ?_
    rintro e w16 ⟨rfl, h⟩
    have HE16 := Lib.hid (HE15.out.trans h)
    go_wp2_with fail
    refine bodyPost_ret (v := .bool true) (by simp [results, Tryz.results3, go_sem]) rfl ?_
    exact ⟨rfl, HE16.out⟩

end Go.Proofs.YtjjaknmnhhfjeaaGreatDoor
