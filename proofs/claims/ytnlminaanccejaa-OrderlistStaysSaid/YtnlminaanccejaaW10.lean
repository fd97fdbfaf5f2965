/- The walks of the reference's Compare, Next, Most, and of slices.Equal. -/
import Derived.Test.YtnlminaanccejaaW9
namespace Go.Proofs.Ytnlminaanccejaa
open Go.RowKit Go.Hw
set_option linter.unusedVariables false
set_option linter.unusedSimpArgs false

def refCmp (xs : List Nat) (x y : Int) : Int × Int :=
  if pos xs x < 0 ∨ pos xs y < 0 then (0, 12) else if pos xs x < pos xs y then (-1, 0) else if pos xs y < pos xs x then (1, 0) else (0, 0)
def refNext (xs : List Nat) (x : Int) : Int × Int :=
  if x ≠ -1 ∧ pos xs x < 0 then (0, 12) else
  let k := if x = -1 then 0 else (pos xs x + 1).toNat
  if k = xs.length then (0, 8) else ((xs.getD k 0 : Nat), 0)

set_option maxRecDepth 100000 in
set_option maxHeartbeats 400000 in
theorem rcmp_n1 (S : Nat → Prop) (sl : Value) (xs : List Nat) (made x y : Int) (w : World) (h : LsR S w sl xs) (hS : ∀ k, S k → k < w.heap.size) (hl : xs.length ≤ 4000) (hc : pos xs x < 0) :
    Calls Try.prog 22 #[.agg #[sl, .int .i64 made], .int .i64 x, .int .i64 y] w fun e w' => e = .returned (two (0, 12)) ∧ Ext w w' := by
  obtain ⟨a, cap, hv⟩ := h.shape
  subst hv
  have hk := Lib.hid h
  have HS := Lib.hid hS
  clear h hS
  generalize hP : pos xs x = P at *
  have HP := Lib.hid hP
  generalize hQ : pos xs y = Q at *
  have HQ := Lib.hid hQ
  clear hP hQ
  go_enter Try.func22, Try.ntmps22
  go_wp2_with fail
  refine (at_any S _ xs _ x _ (hk.out.kept (((Upd.refl (fun _ => False) w).alloc _)) (fun _ _ h => h)) (fun k hk => by have := HS.out k hk; simp; omega) hl).mono ?_
  rintro e w1 ⟨rfl, u1⟩
  rw [HP.out]
  have hB : w1.heap[w.heap.size]? = some (.cells #[.slice a xs.length cap, .int .i64 made] 27) := u1.heap (alloc0 _ _) (fun x => x)
  have b0 : w1.cell? ⟨w.heap.size, 0, none⟩ = some (.slice a xs.length cap) := by rw [cell_of_row w1 _ 0 _ _ _ hB]; rfl
  have b1 : w1.cell? ⟨w.heap.size, 1, none⟩ = some (.int .i64 made) := by rw [cell_of_row w1 _ 1 _ _ _ hB]; rfl
  have E1 : Hid (Ext w w1) := (((Upd.refl _ w).alloc _)).ext u1
  have HB := Lib.hid hB
  clear u1 hB
  go_wp2_with fail
  refine (at_any S _ xs _ y _ (hk.out.kept E1.out (fun _ _ h => h)) (fun k hk => by have := HS.out k hk; have := E1.out.size; omega) hl).mono ?_
  rintro e w2 ⟨rfl, u2⟩
  rw [HQ.out]
  have E2 : Hid (Ext w w2) := E1.out.ext u2
  clear u2 b0 b1
  go_wp2_with fail
  go_ret2
  exact ⟨rfl, E2.out⟩

set_option maxRecDepth 100000 in
set_option maxHeartbeats 400000 in
theorem rcmp_n2 (S : Nat → Prop) (sl : Value) (xs : List Nat) (made x y : Int) (w : World) (h : LsR S w sl xs) (hS : ∀ k, S k → k < w.heap.size) (hl : xs.length ≤ 4000) (hc : 0 ≤ pos xs x) (hd : pos xs y < 0) :
    Calls Try.prog 22 #[.agg #[sl, .int .i64 made], .int .i64 x, .int .i64 y] w fun e w' => e = .returned (two (0, 12)) ∧ Ext w w' := by
  obtain ⟨a, cap, hv⟩ := h.shape
  subst hv
  have hk := Lib.hid h
  have HS := Lib.hid hS
  clear h hS
  generalize hP : pos xs x = P at *
  have HP := Lib.hid hP
  generalize hQ : pos xs y = Q at *
  have HQ := Lib.hid hQ
  clear hP hQ
  go_enter Try.func22, Try.ntmps22
  go_wp2_with fail
  refine (at_any S _ xs _ x _ (hk.out.kept (((Upd.refl (fun _ => False) w).alloc _)) (fun _ _ h => h)) (fun k hk => by have := HS.out k hk; simp; omega) hl).mono ?_
  rintro e w1 ⟨rfl, u1⟩
  rw [HP.out]
  have hB : w1.heap[w.heap.size]? = some (.cells #[.slice a xs.length cap, .int .i64 made] 27) := u1.heap (alloc0 _ _) (fun x => x)
  have b0 : w1.cell? ⟨w.heap.size, 0, none⟩ = some (.slice a xs.length cap) := by rw [cell_of_row w1 _ 0 _ _ _ hB]; rfl
  have b1 : w1.cell? ⟨w.heap.size, 1, none⟩ = some (.int .i64 made) := by rw [cell_of_row w1 _ 1 _ _ _ hB]; rfl
  have E1 : Hid (Ext w w1) := (((Upd.refl _ w).alloc _)).ext u1
  have HB := Lib.hid hB
  clear u1 hB
  go_wp2_with fail
  refine (at_any S _ xs _ y _ (hk.out.kept E1.out (fun _ _ h => h)) (fun k hk => by have := HS.out k hk; have := E1.out.size; omega) hl).mono ?_
  rintro e w2 ⟨rfl, u2⟩
  rw [HQ.out]
  have E2 : Hid (Ext w w2) := E1.out.ext u2
  clear u2 b0 b1
  go_wp2_with fail
  go_ret2
  exact ⟨rfl, E2.out⟩

set_option maxRecDepth 100000 in
set_option maxHeartbeats 400000 in
theorem rcmp_lt (S : Nat → Prop) (sl : Value) (xs : List Nat) (made x y : Int) (w : World) (h : LsR S w sl xs) (hS : ∀ k, S k → k < w.heap.size) (hl : xs.length ≤ 4000) (hc : 0 ≤ pos xs x) (hd : 0 ≤ pos xs y) (hlt : pos xs x < pos xs y) :
    Calls Try.prog 22 #[.agg #[sl, .int .i64 made], .int .i64 x, .int .i64 y] w fun e w' => e = .returned (two (-1, 0)) ∧ Ext w w' := by
  obtain ⟨a, cap, hv⟩ := h.shape
  subst hv
  have hk := Lib.hid h
  have HS := Lib.hid hS
  clear h hS
  generalize hP : pos xs x = P at *
  have HP := Lib.hid hP
  generalize hQ : pos xs y = Q at *
  have HQ := Lib.hid hQ
  clear hP hQ
  go_enter Try.func22, Try.ntmps22
  go_wp2_with fail
  refine (at_any S _ xs _ x _ (hk.out.kept (((Upd.refl (fun _ => False) w).alloc _)) (fun _ _ h => h)) (fun k hk => by have := HS.out k hk; simp; omega) hl).mono ?_
  rintro e w1 ⟨rfl, u1⟩
  rw [HP.out]
  have hB : w1.heap[w.heap.size]? = some (.cells #[.slice a xs.length cap, .int .i64 made] 27) := u1.heap (alloc0 _ _) (fun x => x)
  have b0 : w1.cell? ⟨w.heap.size, 0, none⟩ = some (.slice a xs.length cap) := by rw [cell_of_row w1 _ 0 _ _ _ hB]; rfl
  have b1 : w1.cell? ⟨w.heap.size, 1, none⟩ = some (.int .i64 made) := by rw [cell_of_row w1 _ 1 _ _ _ hB]; rfl
  have E1 : Hid (Ext w w1) := (((Upd.refl _ w).alloc _)).ext u1
  have HB := Lib.hid hB
  clear u1 hB
  go_wp2_with fail
  refine (at_any S _ xs _ y _ (hk.out.kept E1.out (fun _ _ h => h)) (fun k hk => by have := HS.out k hk; have := E1.out.size; omega) hl).mono ?_
  rintro e w2 ⟨rfl, u2⟩
  rw [HQ.out]
  have E2 : Hid (Ext w w2) := E1.out.ext u2
  clear u2 b0 b1
  go_wp2_with fail
  go_ret2
  exact ⟨rfl, E2.out⟩

set_option maxRecDepth 100000 in
set_option maxHeartbeats 400000 in
theorem rcmp_gt (S : Nat → Prop) (sl : Value) (xs : List Nat) (made x y : Int) (w : World) (h : LsR S w sl xs) (hS : ∀ k, S k → k < w.heap.size) (hl : xs.length ≤ 4000) (hc : 0 ≤ pos xs x) (hd : 0 ≤ pos xs y) (hlt : pos xs y < pos xs x) :
    Calls Try.prog 22 #[.agg #[sl, .int .i64 made], .int .i64 x, .int .i64 y] w fun e w' => e = .returned (two (1, 0)) ∧ Ext w w' := by
  obtain ⟨a, cap, hv⟩ := h.shape
  subst hv
  have hk := Lib.hid h
  have HS := Lib.hid hS
  clear h hS
  generalize hP : pos xs x = P at *
  have HP := Lib.hid hP
  generalize hQ : pos xs y = Q at *
  have HQ := Lib.hid hQ
  clear hP hQ
  go_enter Try.func22, Try.ntmps22
  go_wp2_with fail
  refine (at_any S _ xs _ x _ (hk.out.kept (((Upd.refl (fun _ => False) w).alloc _)) (fun _ _ h => h)) (fun k hk => by have := HS.out k hk; simp; omega) hl).mono ?_
  rintro e w1 ⟨rfl, u1⟩
  rw [HP.out]
  have hB : w1.heap[w.heap.size]? = some (.cells #[.slice a xs.length cap, .int .i64 made] 27) := u1.heap (alloc0 _ _) (fun x => x)
  have b0 : w1.cell? ⟨w.heap.size, 0, none⟩ = some (.slice a xs.length cap) := by rw [cell_of_row w1 _ 0 _ _ _ hB]; rfl
  have b1 : w1.cell? ⟨w.heap.size, 1, none⟩ = some (.int .i64 made) := by rw [cell_of_row w1 _ 1 _ _ _ hB]; rfl
  have E1 : Hid (Ext w w1) := (((Upd.refl _ w).alloc _)).ext u1
  have HB := Lib.hid hB
  clear u1 hB
  go_wp2_with fail
  refine (at_any S _ xs _ y _ (hk.out.kept E1.out (fun _ _ h => h)) (fun k hk => by have := HS.out k hk; have := E1.out.size; omega) hl).mono ?_
  rintro e w2 ⟨rfl, u2⟩
  rw [HQ.out]
  have E2 : Hid (Ext w w2) := E1.out.ext u2
  clear u2 b0 b1
  go_wp2_with fail
  go_ret2
  exact ⟨rfl, E2.out⟩

set_option maxRecDepth 100000 in
set_option maxHeartbeats 400000 in
theorem rcmp_eq (S : Nat → Prop) (sl : Value) (xs : List Nat) (made x y : Int) (w : World) (h : LsR S w sl xs) (hS : ∀ k, S k → k < w.heap.size) (hl : xs.length ≤ 4000) (hc : 0 ≤ pos xs x) (hd : 0 ≤ pos xs y) (hlt : pos xs y ≤ pos xs x) (hlt2 : pos xs x ≤ pos xs y) :
    Calls Try.prog 22 #[.agg #[sl, .int .i64 made], .int .i64 x, .int .i64 y] w fun e w' => e = .returned (two (0, 0)) ∧ Ext w w' := by
  obtain ⟨a, cap, hv⟩ := h.shape
  subst hv
  have hk := Lib.hid h
  have HS := Lib.hid hS
  clear h hS
  generalize hP : pos xs x = P at *
  have HP := Lib.hid hP
  generalize hQ : pos xs y = Q at *
  have HQ := Lib.hid hQ
  clear hP hQ
  go_enter Try.func22, Try.ntmps22
  go_wp2_with fail
  refine (at_any S _ xs _ x _ (hk.out.kept (((Upd.refl (fun _ => False) w).alloc _)) (fun _ _ h => h)) (fun k hk => by have := HS.out k hk; simp; omega) hl).mono ?_
  rintro e w1 ⟨rfl, u1⟩
  rw [HP.out]
  have hB : w1.heap[w.heap.size]? = some (.cells #[.slice a xs.length cap, .int .i64 made] 27) := u1.heap (alloc0 _ _) (fun x => x)
  have b0 : w1.cell? ⟨w.heap.size, 0, none⟩ = some (.slice a xs.length cap) := by rw [cell_of_row w1 _ 0 _ _ _ hB]; rfl
  have b1 : w1.cell? ⟨w.heap.size, 1, none⟩ = some (.int .i64 made) := by rw [cell_of_row w1 _ 1 _ _ _ hB]; rfl
  have E1 : Hid (Ext w w1) := (((Upd.refl _ w).alloc _)).ext u1
  have HB := Lib.hid hB
  clear u1 hB
  go_wp2_with fail
  refine (at_any S _ xs _ y _ (hk.out.kept E1.out (fun _ _ h => h)) (fun k hk => by have := HS.out k hk; have := E1.out.size; omega) hl).mono ?_
  rintro e w2 ⟨rfl, u2⟩
  rw [HQ.out]
  have E2 : Hid (Ext w w2) := E1.out.ext u2
  clear u2 b0 b1
  go_wp2_with fail
  go_ret2
  exact ⟨rfl, E2.out⟩

theorem rcmp_any (S : Nat → Prop) (sl : Value) (xs : List Nat) (made x y : Int) (w : World) (h : LsR S w sl xs) (hS : ∀ k, S k → k < w.heap.size) (hl : xs.length ≤ 4000) :
    Calls Try.prog 22 #[.agg #[sl, .int .i64 made], .int .i64 x, .int .i64 y] w fun e w' => e = .returned (two (refCmp xs x y)) ∧ Ext w w' := by
  unfold refCmp
  by_cases h1 : pos xs x < 0
  · rw [if_pos (.inl h1)]; exact rcmp_n1 S sl xs made x y w h hS hl h1
  · by_cases h2 : pos xs y < 0
    · rw [if_pos (.inr h2)]; exact rcmp_n2 S sl xs made x y w h hS hl (by omega) h2
    · rw [if_neg (by omega)]
      by_cases h3 : pos xs x < pos xs y
      · rw [if_pos h3]; exact rcmp_lt S sl xs made x y w h hS hl (by omega) (by omega) h3
      · rw [if_neg h3]
        by_cases h4 : pos xs y < pos xs x
        · rw [if_pos h4]; exact rcmp_gt S sl xs made x y w h hS hl (by omega) (by omega) h4
        · rw [if_neg h4]; exact rcmp_eq S sl xs made x y w h hS hl (by omega) (by omega) (by omega) (by omega)

set_option maxRecDepth 100000 in
set_option maxHeartbeats 400000 in
theorem rnext_no (S : Nat → Prop) (sl : Value) (xs : List Nat) (made x : Int) (w : World) (h : LsR S w sl xs) (hS : ∀ k, S k → k < w.heap.size) (hl : xs.length ≤ 4000) (hx : x ≠ -1) (hc : pos xs x < 0) :
    Calls Try.prog 24 #[.agg #[sl, .int .i64 made], .int .i64 x] w fun e w' => e = .returned (two (0, 12)) ∧ Ext w w' := by
  obtain ⟨a, cap, hv⟩ := h.shape
  subst hv
  have hk := Lib.hid h
  have HS := Lib.hid hS
  clear h hS
  have t1 : (x != -1) = true := by simpa using hx
  have hp := pos_bd xs x
  generalize hP : pos xs x = P at *
  have HP := Lib.hid hP
  obtain rfl : P = -1 := by omega
  clear hP hp hx
  go_enter Try.func24, Try.ntmps24
  go_wp2_with fail
  refine (at_any S _ xs _ x _ (hk.out.kept (((Upd.refl (fun _ => False) w).alloc _)) (fun _ _ h => h)) (fun k hk => by have := HS.out k hk; simp; omega) hl).mono ?_
  rintro e w1 ⟨rfl, u1⟩
  rw [HP.out]
  have hB : w1.heap[w.heap.size]? = some (.cells #[.slice a xs.length cap, .int .i64 made] 27) := u1.heap (alloc0 _ _) (fun x => x)
  have b0 : w1.cell? ⟨w.heap.size, 0, none⟩ = some (.slice a xs.length cap) := by rw [cell_of_row w1 _ 0 _ _ _ hB]; rfl
  have b1 : w1.cell? ⟨w.heap.size, 1, none⟩ = some (.int .i64 made) := by rw [cell_of_row w1 _ 1 _ _ _ hB]; rfl
  have E1 : Hid (Ext w w1) := (((Upd.refl _ w).alloc _)).ext u1
  have HB := Lib.hid hB
  clear u1 hB
  go_wp2_with fail
  go_ret2
  exact ⟨rfl, E1.out⟩

set_option maxRecDepth 100000 in
set_option maxHeartbeats 400000 in
theorem rnext_oe (S : Nat → Prop) (sl : Value) (xs : List Nat) (made x : Int) (w : World) (h : LsR S w sl xs) (hS : ∀ k, S k → k < w.heap.size) (hl : xs.length ≤ 4000) (hx : x = -1) (K : Nat) (hK : 0 = K) (he : K = xs.length) :
    Calls Try.prog 24 #[.agg #[sl, .int .i64 made], .int .i64 x] w fun e w' => e = .returned (two (0, 8)) ∧ Ext w w' := by
  obtain ⟨a, cap, hv⟩ := h.shape
  subst hv
  have hk := Lib.hid h
  have HS := Lib.hid hS
  clear h hS
  subst hx
  subst hK
  have t3 : ((0 : Int) == (xs.length : Int)) = true := by simp; omega
  have hl2 := Lib.hid he
  clear he
  go_enter Try.func24, Try.ntmps24
  go_wp2_with fail
  go_ret2
  exact ⟨rfl, (Upd.refl _ w).alloc _⟩

set_option maxRecDepth 100000 in
set_option maxHeartbeats 400000 in
theorem rnext_he (S : Nat → Prop) (sl : Value) (xs : List Nat) (made x : Int) (w : World) (h : LsR S w sl xs) (hS : ∀ k, S k → k < w.heap.size) (hl : xs.length ≤ 4000) (hx : x ≠ -1) (hc : 0 ≤ pos xs x) (K : Nat) (hK : pos xs x + 1 = K) (he : K = xs.length) :
    Calls Try.prog 24 #[.agg #[sl, .int .i64 made], .int .i64 x] w fun e w' => e = .returned (two (0, 8)) ∧ Ext w w' := by
  obtain ⟨a, cap, hv⟩ := h.shape
  subst hv
  have hk := Lib.hid h
  have HS := Lib.hid hS
  clear h hS
  have t1 : (x != -1) = true := by simpa using hx
  have hp := pos_bd xs x
  generalize hP : pos xs x = P at *
  have HP := Lib.hid hP
  have t2 : (P + 1 == 0) = false := by simp; omega
  have t3 : (P + 1 == (xs.length : Int)) = true := by simp; omega
  have hp2 : P < xs.length := by omega
  clear hP hp hx hK
  have hl2 := Lib.hid he
  clear he
  go_enter Try.func24, Try.ntmps24
  go_wp2_with fail
  refine (at_any S _ xs _ x _ (hk.out.kept (((Upd.refl (fun _ => False) w).alloc _)) (fun _ _ h => h)) (fun k hk => by have := HS.out k hk; simp; omega) hl).mono ?_
  rintro e w1 ⟨rfl, u1⟩
  rw [HP.out]
  have hB : w1.heap[w.heap.size]? = some (.cells #[.slice a xs.length cap, .int .i64 made] 27) := u1.heap (alloc0 _ _) (fun x => x)
  have b0 : w1.cell? ⟨w.heap.size, 0, none⟩ = some (.slice a xs.length cap) := by rw [cell_of_row w1 _ 0 _ _ _ hB]; rfl
  have b1 : w1.cell? ⟨w.heap.size, 1, none⟩ = some (.int .i64 made) := by rw [cell_of_row w1 _ 1 _ _ _ hB]; rfl
  have E1 : Hid (Ext w w1) := (((Upd.refl _ w).alloc _)).ext u1
  have HB := Lib.hid hB
  clear u1 hB
  go_wp2_with fail
  go_ret2
  exact ⟨rfl, E1.out⟩

set_option maxRecDepth 100000 in
set_option maxHeartbeats 400000 in
theorem rnext_ok (S : Nat → Prop) (sl : Value) (xs : List Nat) (made x : Int) (w : World) (h : LsR S w sl xs) (hS : ∀ k, S k → k < w.heap.size) (hl : xs.length ≤ 4000) (hx : x = -1) (K : Nat) (hK : 0 = K) (he : K < xs.length) :
    Calls Try.prog 24 #[.agg #[sl, .int .i64 made], .int .i64 x] w fun e w' => e = .returned (two ((xs.getD K 0 : Nat), 0)) ∧ Ext w w' := by
  obtain ⟨g, off, cap, hv, hc0, hg, hj⟩ := h.pos (by omega)
  subst hv
  obtain ⟨a, ha⟩ : ∃ a, a = some (⟨g, off, none⟩ : Addr) := ⟨_, rfl⟩
  have hcell : w.cell? ⟨g, off + K, none⟩ = some (.int .i64 (xs.getD K 0 : Nat)) := by rw [hj K (by omega), ints_get xs K he]
  have hgs := hS g hg
  have hk := Lib.hid h
  have HS := Lib.hid hS
  generalize xs.getD K 0 = E at *
  have Hcell := Lib.hid hcell
  clear h hS hj ha hcell
  subst hx
  subst hK
  have t3 : ((0 : Int) == (xs.length : Int)) = false := by simp; omega
  go_enter Try.func24, Try.ntmps24
  have hc1 : (w.alloc (.cells #[.slice (some ⟨g, off, none⟩) xs.length cap, .int .i64 made] 27)).cell? ⟨g, off, none⟩ = some (.int .i64 E) := ((Upd.refl (fun _ => False) w).alloc _).cell Hcell.out (fun x => x)
  go_wp2_with fail
  go_ret2
  exact ⟨rfl, (Upd.refl _ w).alloc _⟩

set_option maxRecDepth 100000 in
set_option maxHeartbeats 400000 in
theorem rnext_hk (S : Nat → Prop) (sl : Value) (xs : List Nat) (made x : Int) (w : World) (h : LsR S w sl xs) (hS : ∀ k, S k → k < w.heap.size) (hl : xs.length ≤ 4000) (hx : x ≠ -1) (hc : 0 ≤ pos xs x) (K : Nat) (hK : pos xs x + 1 = K) (he : K < xs.length) :
    Calls Try.prog 24 #[.agg #[sl, .int .i64 made], .int .i64 x] w fun e w' => e = .returned (two ((xs.getD K 0 : Nat), 0)) ∧ Ext w w' := by
  obtain ⟨g, off, cap, hv, hc0, hg, hj⟩ := h.pos (by omega)
  subst hv
  obtain ⟨a, ha⟩ : ∃ a, a = some (⟨g, off, none⟩ : Addr) := ⟨_, rfl⟩
  have hcell : w.cell? ⟨g, off + K, none⟩ = some (.int .i64 (xs.getD K 0 : Nat)) := by rw [hj K (by omega), ints_get xs K he]
  have hgs := hS g hg
  have hk := Lib.hid h
  have HS := Lib.hid hS
  generalize xs.getD K 0 = E at *
  have Hcell := Lib.hid hcell
  clear h hS hj ha hcell
  have t1 : (x != -1) = true := by simpa using hx
  have hp := pos_bd xs x
  generalize hP : pos xs x = P at *
  have HP := Lib.hid hP
  have t2 : (P + 1 == 0) = false := by simp; omega
  have t3 : (P + 1 == (xs.length : Int)) = false := by simp; omega
  have hp2 : P < xs.length := by omega
  have hKK := Lib.hid hK
  have t4 : (P + 1).toNat = K := by omega
  have t5 : P + 1 < xs.length := by omega
  clear hP hp hx hK
  go_enter Try.func24, Try.ntmps24
  go_wp2_with fail
  refine (at_any S _ xs _ x _ (hk.out.kept (((Upd.refl (fun _ => False) w).alloc _)) (fun _ _ h => h)) (fun k hk => by have := HS.out k hk; simp; omega) hl).mono ?_
  rintro e w1 ⟨rfl, u1⟩
  rw [HP.out]
  have hB : w1.heap[w.heap.size]? = some (.cells #[.slice (some ⟨g, off, none⟩) xs.length cap, .int .i64 made] 27) := u1.heap (alloc0 _ _) (fun x => x)
  have b0 : w1.cell? ⟨w.heap.size, 0, none⟩ = some (.slice (some ⟨g, off, none⟩) xs.length cap) := by rw [cell_of_row w1 _ 0 _ _ _ hB]; rfl
  have b1 : w1.cell? ⟨w.heap.size, 1, none⟩ = some (.int .i64 made) := by rw [cell_of_row w1 _ 1 _ _ _ hB]; rfl
  have E1 : Hid (Ext w w1) := (((Upd.refl _ w).alloc _)).ext u1
  have HB := Lib.hid hB
  have hc1 : w1.cell? ⟨g, off + K, none⟩ = some (.int .i64 E) := E1.out.cell Hcell.out (fun x => x)
  clear u1 hB
  go_wp2_with fail
  go_ret2
  exact ⟨rfl, E1.out⟩

theorem rnext_any (S : Nat → Prop) (sl : Value) (xs : List Nat) (made x : Int) (w : World) (h : LsR S w sl xs) (hS : ∀ k, S k → k < w.heap.size) (hl : xs.length ≤ 4000) :
    Calls Try.prog 24 #[.agg #[sl, .int .i64 made], .int .i64 x] w fun e w' => e = .returned (two (refNext xs x)) ∧ Ext w w' := by
  unfold refNext
  by_cases h1 : x = -1
  · rw [if_neg (by omega)]
    simp only [if_pos h1]
    by_cases h2 : 0 = xs.length
    · rw [if_pos h2]; exact rnext_oe S sl xs made x w h hS hl h1 0 rfl h2
    · rw [if_neg h2]; exact rnext_ok S sl xs made x w h hS hl h1 0 rfl (by omega)
  · by_cases h2 : pos xs x < 0
    · rw [if_pos ⟨h1, h2⟩]; exact rnext_no S sl xs made x w h hS hl h1 h2
    · rw [if_neg (by omega)]
      simp only [if_neg h1]
      have hp := pos_bd xs x
      by_cases h3 : (pos xs x + 1).toNat = xs.length
      · rw [if_pos h3]; exact rnext_he S sl xs made x w h hS hl h1 (by omega) _ (by omega) h3
      · rw [if_neg h3]; exact rnext_hk S sl xs made x w h hS hl h1 (by omega) _ (by omega) (by omega)

set_option maxRecDepth 100000 in
set_option maxHeartbeats 1000000 in
theorem equal_any (S T : Nat → Prop) (v1 v2 : Value) (xs ys : List Nat) (w : World) (h1 : LsR S w v1 xs) (h2 : LsR T w v2 ys) (hl1 : xs.length ≤ 4000) (hl2 : ys.length ≤ 4000) :
    Calls Try.prog 14 #[v1, v2] w fun e w' => e = .returned (.bool (decide (xs = ys))) ∧ ∃ n, w' = w.drewN n := by
  obtain ⟨R, hR⟩ : ∃ R, R = decide (xs = ys) := ⟨_, rfl⟩
  rw [← hR]
  by_cases hlen : xs.length = ys.length
  · by_cases h0 : xs.length = 0
    · obtain ⟨a, cap, hv⟩ := h1.shape
      obtain ⟨b, cap2, hv2⟩ := h2.shape
      have e1 : xs = [] := List.eq_nil_of_length_eq_zero h0
      have e2 : ys = [] := List.eq_nil_of_length_eq_zero (by omega)
      subst e1; subst e2
      have hr : R = true := by rw [hR]; rfl
      subst hr; subst hv; subst hv2
      clear hR h1 h2 hl1 hl2 hlen h0
      simp only [List.length_nil]
      go_enter Try.func14, Try.ntmps14
      go_wp2_with fail
      go_loop [13] (fun i => i = .int .i64 0) (fun _ => 0)
      case atStart => rfl
      case round =>
        subst hrel
        go_wp2_with fail
        go_ret
        exact ⟨rfl, 0, rfl⟩
    · obtain ⟨g, off, cap, hv, hc, hg, hj⟩ := h1.pos (by omega)
      obtain ⟨g', off', cap', hv', hc', hg', hj'⟩ := h2.pos (by omega)
      rw [← hlen] at hv'
      subst hv; subst hv'
      have Hj := Lib.hid hj
      have Hj' := Lib.hid hj'
      have Hlen := Lib.hid hlen
      have HR := Lib.hid hR
      have t0 : ((xs.length : Int) != (xs.length : Int)) = false := by simp
      clear hj hj' hlen hR h1 h2 hl2
      go_enter Try.func14, Try.ntmps14
      go_wp2_with fail
      go_loopg [13] xs.length (fun gk i wr => ∃ k m : Nat, i = .int .i64 k ∧ gk = xs.length - k ∧ k ≤ xs.length ∧ wr = w.drewN m ∧ Hid (xs.take k = ys.take k))
      case atStart => exact ⟨0, 0, rfl, rfl, Nat.zero_le _, rfl, rfl⟩
      case round =>
        obtain ⟨k, m, rfl, rfl, hk, rfl, Hk⟩ := hrel
        by_cases hlt : k < xs.length
        · have hlt2 : k < ys.length := by have := Hlen.out; omega
          have c1 : w.cell? ⟨g, off + k, none⟩ = some (.int .i64 (xs.getD k 0 : Nat)) := by rw [Hj.out k (by omega), ints_get xs k hlt]
          have c2 : w.cell? ⟨g', off' + k, none⟩ = some (.int .i64 (ys.getD k 0 : Nat)) := by rw [Hj'.out k (by omega), ints_get ys k hlt2]
          have hX : Hid (xs.take (k + 1) = xs.take k ++ [xs.getD k 0]) := by show xs.take (k + 1) = _; rw [List.take_succ_eq_append_getElem hlt]; simp [hlt]
          have hY : Hid (ys.take (k + 1) = ys.take k ++ [ys.getD k 0]) := by show ys.take (k + 1) = _; rw [List.take_succ_eq_append_getElem hlt2]; simp [hlt2]
          have hne : Hid (xs.getD k 0 ≠ ys.getD k 0 → xs ≠ ys) := fun h e => h (by rw [e])
          generalize xs.getD k 0 = X at *
          generalize ys.getD k 0 = Y at *
          have s1 : (0 : Int) ≤ (k : Int) := by omega
          have s2 : (k : Int) < (xs.length : Int) := by omega
          by_cases hXY : X = Y
          · subst hXY
            have t1 : ((X : Int) != (X : Int)) = false := by simp
            have Hs : Hid (xs.take (k + 1) = ys.take (k + 1)) := by show xs.take (k + 1) = _; rw [hX.out, hY.out, Hk.out]
            clear Hk hX hY hne hlt2
            go_wp2_with fail
            go_quiet (fail)
            go_wp2_with fail
            go_roundg (xs.length - (k + 1))
            case measure => omega
            case rel => exact ⟨k + 1, m + nq, by go_num, rfl, by omega, rfl, Hs⟩
          · have t1 : ((X : Int) != (Y : Int)) = true := by simp; omega
            have hr : R = false := by rw [HR.out]; simpa using hne.out hXY
            subst hr
            clear hXY Hk hX hY hne hlt2 HR
            go_wp2_with fail
            go_quiet (fail)
            go_wp2_with fail
            go_ret
            exact ⟨rfl, m + nq, World.drewN_drewN _ _ _⟩
        · have he : k = xs.length := by omega
          have hr : R = true := by
            rw [HR.out]
            have h3 := Hk.out
            rw [List.take_of_length_le (by omega), List.take_of_length_le (by have := Hlen.out; omega)] at h3
            simpa using h3
          subst hr
          clear Hk HR
          go_wp2_with fail
          go_ret
          exact ⟨rfl, m, rfl⟩
  · obtain ⟨a, cap, hv⟩ := h1.shape
    obtain ⟨b, cap2, hv2⟩ := h2.shape
    subst hv; subst hv2
    have hr : R = false := by rw [hR]; simp; intro e; exact hlen (by rw [e])
    subst hr
    have t0 : ((xs.length : Int) != (ys.length : Int)) = true := by simp; omega
    clear hR h1 h2 hlen
    go_enter Try.func14, Try.ntmps14
    go_wp2_with fail
    go_ret
    exact ⟨rfl, 0, rfl⟩

def logN : Nat → Int → Int
  | 0, _ => 0
  | f + 1, n => if 1 < n then 1 + logN f (n / 2) else 0
/-- the binary logarithm, rounded down -/
def log2I (n : Int) : Int := logN n.toNat n
theorem logN_half : ∀ (f g : Nat) (n : Int), n.toNat ≤ f → n.toNat ≤ g → logN f n = logN g n := by
  intro f
  induction f with
  | zero =>
    intro g n h1 h2
    cases g with
    | zero => rfl
    | succ g => unfold logN; rw [if_neg (by omega)]
  | succ f ih =>
    intro g n h1 h2
    cases g with
    | zero => unfold logN; rw [if_neg (by omega)]
    | succ g =>
      unfold logN
      split
      · rw [ih g (n / 2) (by omega) (by omega)]
      · rfl
theorem log2I_step (n : Int) (h : 1 < n) : log2I n = 1 + log2I (n / 2) := by
  unfold log2I
  obtain ⟨f, hf⟩ : ∃ f, n.toNat = f + 1 := ⟨n.toNat - 1, by omega⟩
  rw [hf]
  show (if 1 < n then 1 + logN f (n / 2) else 0) = _
  rw [if_pos h, logN_half f (n / 2).toNat (n / 2) (by omega) (Nat.le_refl _)]
theorem log2I_low (n : Int) (h : ¬ 1 < n) : log2I n = 0 := by
  unfold log2I
  cases n.toNat with
  | zero => rfl
  | succ f => show (if 1 < n then 1 + logN f (n / 2) else 0) = _; rw [if_neg h]
theorem logN_bd : ∀ (f : Nat) (n : Int), 0 ≤ logN f n ∧ logN f n ≤ f := by
  intro f
  induction f with
  | zero => intro n; simp [logN]
  | succ f ih =>
    intro n
    have := ih (n / 2)
    unfold logN
    split <;> omega
theorem log2I_bd (n : Int) : 0 ≤ log2I n ∧ log2I n ≤ n.toNat := logN_bd _ _

set_option maxHeartbeats 400000 in
theorem log_any (n : Int) (w : World) (hn : n ≤ 100000) (hn0 : -100000 ≤ n) :
    Calls Try.prog 32 #[.int .i64 n] w fun e w' => e = .returned (.int .i64 (log2I n)) ∧ w = w' := by
  obtain ⟨R, hR⟩ : ∃ R, R = log2I n := ⟨_, rfl⟩
  rw [← hR]
  have HR : Hid (log2I n = R) := hR.symm
  clear hR
  go_enter Try.func32, Try.ntmps32
  go_wp2_with fail
  go_loop [0, 3] (fun i k => ∃ (m c : Int), i = .int .i64 m ∧ k = .int .i64 c ∧ -100000 ≤ m ∧ m ≤ 100000 ∧ 0 ≤ c ∧ c + m ≤ 200000 ∧ c ≤ 200000 ∧ Hid (c + log2I m = R)) (fun i _ => (intOf i).toNat)
  case atStart => exact ⟨n, 0, rfl, rfl, by omega, by omega, by omega, by omega, by omega, by rw [HR.out]; simp [Hid]⟩
  case round =>
    obtain ⟨m, c, rfl, rfl, h1, h2, h3, h4, h5, Hm⟩ := hrel
    by_cases hlt : 1 < m
    · have Hm2 : Hid (c + 1 + log2I (m / 2) = R) := by have := Hm.out; rw [log2I_step m hlt] at this; show _ = _; omega
      clear Hm HR
      go_wp2_with fail
      go_round
      case rel => exact ⟨m / 2, c + 1, rfl, rfl, by omega, by omega, by omega, by omega, by omega, Hm2⟩
      case measure => simp [intOf]; omega
    · have hr : R = c := by have := Hm.out; rw [log2I_low m hlt] at this; omega
      subst hr
      clear Hm HR
      go_wp2_with fail
      go_ret
      exact ⟨rfl, rfl⟩

def most (n : Int) : Int := if n < 1 then 0 else 8 * n * (log2I n + 1)
set_option maxHeartbeats 400000 in
theorem most_any (n : Int) (w : World) (hn : n ≤ 10000) (hn0 : 0 ≤ n) :
    Calls Try.prog 18 #[.int .i64 n] w fun e w' => e = .returned (.int .i64 (most n)) ∧ w = w' := by
  by_cases h : n < 1
  · have e1 : most n = 0 := by simp [most, h]
    rw [e1]; clear e1
    go_enter Try.func18, Try.ntmps18
    go_wp2
    go_ret
    exact ⟨rfl, rfl⟩
  · have e1 : most n = 8 * n * (log2I n + 1) := by simp [most, h]
    rw [e1]; clear e1
    have hb := log2I_bd n
    have C := log_any n w (by omega) (by omega)
    generalize log2I n = L at *
    have HC := Lib.hid C
    have hmul : 8 * n * (L + 1) ≤ 80000 * 10001 := Int.mul_le_mul (by omega) (by omega) (by omega) (by omega)
    have hmul0 : 0 ≤ 8 * n * (L + 1) := Int.mul_nonneg (by omega) (by omega)
    clear C
    go_enter Try.func18, Try.ntmps18
    go_wp2_with fail
    refine HC.out.mono ?_
    rintro e w' ⟨rfl, rfl⟩
    go_wp2_with fail
    go_ret
    exact ⟨rfl, rfl⟩

end Go.Proofs.Ytnlminaanccejaa
