/- The walks of the list's small methods. -/
import Derived.Test.YtnlminaanccejaaA
namespace Go.Proofs.Ytnlminaanccejaa
open Go.RowKit Go.Hw
set_option linter.unusedVariables false
set_option linter.unusedSimpArgs false

set_option maxHeartbeats 400000 in
theorem after_any (base b : Nat) (v : Value) (M : LM) (x : Int) (w : World) (h : LRep base w b v M) (hl : M.l.length ≤ 100000) (hx : x < 0 ∨ x < M.l.length) :
    Calls Try.prog 30 #[.pointer (some ⟨b, 0, none⟩), .int .i64 x] w fun e w' => e = .returned (.int .i64 (M.after x)) ∧ w = w' := by
  by_cases hn : x < 0
  · have h1 := h.c1
    go_enter Try.func30, Try.ntmps30
    go_wp2
    go_ret
    exact ⟨by simp [LM.after, hn], rfl⟩
  · obtain ⟨k, rfl⟩ := Int.eq_ofNat_of_zero_le (a := x) (by omega)
    obtain ⟨g, cap, hv, hgb, _, hgs⟩ := h.row (by omega)
    have h0 := h.c0
    have hk : k < M.l.length := by omega
    have h1 := h.el hv (i := k) hk (j := 2) (by omega)
    rw [hv] at h0
    obtain ⟨E, hE⟩ : ∃ E, E = M.l.getD k default := ⟨_, rfl⟩
    rw [← hE] at h1
    have h2 : w.cell? ⟨g, k * 4 + 2, none⟩ = some (.int .i64 E.nxt) := h1
    have hr : M.after k = E.nxt := by rw [hE]; simp [LM.after, LM.at, show ¬ (k : Int) < 0 by omega]
    rw [hr]
    clear hx hn hv h hgb hgs h1 hE hr
    go_enter Try.func30, Try.ntmps30
    go_wp2
    go_ret
    exact ⟨rfl, rfl⟩

def cpost (base b : Nat) (v : Value) (M' : LM) (w w' : World) : Prop := LRep base w' b v M' ∧ Upd (own b v) w w'

set_option maxHeartbeats 400000 in
theorem connect_nn (base b : Nat) (v : Value) (M : LM) (x y : Int) (w : World) (h : LRep base w b v M) (hl : M.l.length ≤ 100000) (hx : x < 0) (hy : y < 0) :
    Calls Try.prog 31 #[.pointer (some ⟨b, 0, none⟩), .int .i64 x, .int .i64 y] w fun e w' => e = .returned (.tuple #[]) ∧ cpost base b v (M.connect x y) w w' := by
  have c1 := h.c1
  have c2 := h.c2
  have f1 := h.fz 1
  have f2 := h.fz 2
  have r1 : LRep base (w.setCell ⟨b, 1, none⟩ (.int .i64 y)) b v ({ M with first := y }) := h.set1 _
  have r2 : LRep base ((w.setCell ⟨b, 1, none⟩ (.int .i64 y)).setCell ⟨b, 2, none⟩ (.int .i64 x)) b v (M.connect x y) := by
    have hc : M.connect x y = { { M with first := y } with last := x } := by
      simp [LM.connect, LM.conn1, LM.conn2, hx, hy]
    rw [hc]; exact r1.set2 _
  have u2 : Upd (own b v) w ((w.setCell ⟨b, 1, none⟩ (.int .i64 y)).setCell ⟨b, 2, none⟩ (.int .i64 x)) := ((Upd.refl _ _).setCell (.inl (.inl rfl)) _).setCell (.inl (.inl rfl)) _
  have R : cpost base b v (M.connect x y) w ((w.setCell ⟨b, 1, none⟩ (.int .i64 y)).setCell ⟨b, 2, none⟩ (.int .i64 x)) := ⟨r2, u2⟩
  clear r1 r2 u2 h
  go_enter Try.func31, Try.ntmps31
  go_wp2
  go_end0
  exact ⟨rfl, R⟩

set_option maxHeartbeats 400000 in
theorem connect_np (base b : Nat) (v : Value) (M : LM) (x y : Int) (w : World) (h : LRep base w b v M) (hl : M.l.length ≤ 100000) (hx : x < 0) (hy : 0 ≤ y) (hy2 : y < M.l.length) :
    Calls Try.prog 31 #[.pointer (some ⟨b, 0, none⟩), .int .i64 x, .int .i64 y] w fun e w' => e = .returned (.tuple #[]) ∧ cpost base b v (M.connect x y) w w' := by
  obtain ⟨j, rfl⟩ := Int.eq_ofNat_of_zero_le hy
  obtain ⟨g, cap, hv, hgb, hg0, hgs⟩ := h.row (by omega)
  have h0 := h.c0
  rw [hv] at h0
  have hgb' : ¬ b = g := fun e => hgb e.symm
  have c1 := h.c1
  have c2 := h.c2
  have f1 := h.fz 1
  have f2 := h.fz 2
  have hj : j < M.l.length := by omega
  have e2 : w.cell? ⟨g, j * 4 + 1, none⟩ = some (.int .i64 (M.l.getD j default).prev) := h.el hv (i := j) hj (j := 1) (by omega)
  have g2 := h.fzEl hv (j * 4 + 1)
  generalize (M.l.getD j default).prev = n2 at e2
  have r1 : LRep base (w.setCell ⟨b, 1, none⟩ (.int .i64 j)) b v ({ M with first := j }) := h.set1 _
  have r2 : LRep base ((w.setCell ⟨b, 1, none⟩ (.int .i64 j)).setCell ⟨g, j * 4 + 1, none⟩ (.int .i64 x)) b v (M.connect x j) := by
    have hc : M.connect x j = ({ M with first := j }).upd j (fun e => { e with prev := x }) := by
      simp [LM.connect, LM.conn1, LM.conn2, hx, show ¬ (j : Int) < 0 by omega]
    rw [hc]; exact r1.setEl (cap := cap) (by rw [hv]) (by exact hj) (by omega) _ _ rfl
  have u2 : Upd (own b v) w ((w.setCell ⟨b, 1, none⟩ (.int .i64 j)).setCell ⟨g, j * 4 + 1, none⟩ (.int .i64 x)) := ((Upd.refl _ _).setCell (.inl (.inl rfl)) _).setCell (.inl (.inr (by rw [hv]; rfl))) _
  have R : cpost base b v (M.connect x j) w ((w.setCell ⟨b, 1, none⟩ (.int .i64 j)).setCell ⟨g, j * 4 + 1, none⟩ (.int .i64 x)) := ⟨r2, u2⟩
  clear r1 r2 u2 h hv
  go_enter Try.func31, Try.ntmps31
  go_wp2
  go_end0
  exact ⟨rfl, R⟩

set_option maxHeartbeats 400000 in
theorem connect_pn (base b : Nat) (v : Value) (M : LM) (x y : Int) (w : World) (h : LRep base w b v M) (hl : M.l.length ≤ 100000) (hx : 0 ≤ x) (hx2 : x < M.l.length) (hy : y < 0) :
    Calls Try.prog 31 #[.pointer (some ⟨b, 0, none⟩), .int .i64 x, .int .i64 y] w fun e w' => e = .returned (.tuple #[]) ∧ cpost base b v (M.connect x y) w w' := by
  obtain ⟨k, rfl⟩ := Int.eq_ofNat_of_zero_le hx
  obtain ⟨g, cap, hv, hgb, hg0, hgs⟩ := h.row (by omega)
  have h0 := h.c0
  rw [hv] at h0
  have hgb' : ¬ b = g := fun e => hgb e.symm
  have c1 := h.c1
  have c2 := h.c2
  have f1 := h.fz 1
  have f2 := h.fz 2
  have hk : k < M.l.length := by omega
  have e1 : w.cell? ⟨g, k * 4 + 2, none⟩ = some (.int .i64 (M.l.getD k default).nxt) := h.el hv (i := k) hk (j := 2) (by omega)
  have g1 := h.fzEl hv (k * 4 + 2)
  generalize (M.l.getD k default).nxt = n1 at e1
  have r1 : LRep base (w.setCell ⟨g, k * 4 + 2, none⟩ (.int .i64 y)) b v (M.upd k (fun e => { e with nxt := y })) := h.setEl hv hk (by omega) _ _ rfl
  have r2 : LRep base ((w.setCell ⟨g, k * 4 + 2, none⟩ (.int .i64 y)).setCell ⟨b, 2, none⟩ (.int .i64 k)) b v (M.connect k y) := by
    have hc : M.connect k y = { M.upd k (fun e => { e with nxt := y }) with last := k } := by
      simp [LM.connect, LM.conn1, LM.conn2, show ¬ (k : Int) < 0 by omega, hy]
    rw [hc]; exact r1.set2 _
  have u2 : Upd (own b v) w ((w.setCell ⟨g, k * 4 + 2, none⟩ (.int .i64 y)).setCell ⟨b, 2, none⟩ (.int .i64 k)) := ((Upd.refl _ _).setCell (.inl (.inr (by rw [hv]; rfl))) _).setCell (.inl (.inl rfl)) _
  have R : cpost base b v (M.connect k y) w ((w.setCell ⟨g, k * 4 + 2, none⟩ (.int .i64 y)).setCell ⟨b, 2, none⟩ (.int .i64 k)) := ⟨r2, u2⟩
  clear r1 r2 u2 h hv
  go_enter Try.func31, Try.ntmps31
  go_wp2
  go_end0
  exact ⟨rfl, R⟩

set_option maxHeartbeats 400000 in
theorem connect_pp (base b : Nat) (v : Value) (M : LM) (x y : Int) (w : World) (h : LRep base w b v M) (hl : M.l.length ≤ 100000) (hx : 0 ≤ x) (hx2 : x < M.l.length) (hy : 0 ≤ y) (hy2 : y < M.l.length) :
    Calls Try.prog 31 #[.pointer (some ⟨b, 0, none⟩), .int .i64 x, .int .i64 y] w fun e w' => e = .returned (.tuple #[]) ∧ cpost base b v (M.connect x y) w w' := by
  obtain ⟨k, rfl⟩ := Int.eq_ofNat_of_zero_le hx
  obtain ⟨j, rfl⟩ := Int.eq_ofNat_of_zero_le hy
  obtain ⟨g, cap, hv, hgb, hg0, hgs⟩ := h.row (by omega)
  have h0 := h.c0
  rw [hv] at h0
  have hgb' : ¬ b = g := fun e => hgb e.symm
  have c1 := h.c1
  have c2 := h.c2
  have f1 := h.fz 1
  have f2 := h.fz 2
  have hk : k < M.l.length := by omega
  have e1 : w.cell? ⟨g, k * 4 + 2, none⟩ = some (.int .i64 (M.l.getD k default).nxt) := h.el hv (i := k) hk (j := 2) (by omega)
  have g1 := h.fzEl hv (k * 4 + 2)
  generalize (M.l.getD k default).nxt = n1 at e1
  have hj : j < M.l.length := by omega
  have e2 : w.cell? ⟨g, j * 4 + 1, none⟩ = some (.int .i64 (M.l.getD j default).prev) := h.el hv (i := j) hj (j := 1) (by omega)
  have g2 := h.fzEl hv (j * 4 + 1)
  generalize (M.l.getD j default).prev = n2 at e2
  have r1 : LRep base (w.setCell ⟨g, k * 4 + 2, none⟩ (.int .i64 j)) b v (M.upd k (fun e => { e with nxt := j })) := h.setEl hv hk (by omega) _ _ rfl
  have r2 : LRep base ((w.setCell ⟨g, k * 4 + 2, none⟩ (.int .i64 j)).setCell ⟨g, j * 4 + 1, none⟩ (.int .i64 k)) b v (M.connect k j) := by
    have hc : M.connect k j = (M.upd k (fun e => { e with nxt := j })).upd j (fun e => { e with prev := k }) := by
      simp [LM.connect, LM.conn1, LM.conn2, show ¬ (k : Int) < 0 by omega, show ¬ (j : Int) < 0 by omega]
    rw [hc]; exact r1.setEl (cap := cap) (by rw [hv]; simp [LM.upd]) (by simpa [LM.upd] using hj) (by omega) _ _ rfl
  have u2 : Upd (own b v) w ((w.setCell ⟨g, k * 4 + 2, none⟩ (.int .i64 j)).setCell ⟨g, j * 4 + 1, none⟩ (.int .i64 k)) := ((Upd.refl _ _).setCell (.inl (.inr (by rw [hv]; rfl))) _).setCell (.inl (.inr (by rw [hv]; rfl))) _
  have R : cpost base b v (M.connect k j) w ((w.setCell ⟨g, k * 4 + 2, none⟩ (.int .i64 j)).setCell ⟨g, j * 4 + 1, none⟩ (.int .i64 k)) := ⟨r2, u2⟩
  clear r1 r2 u2 h hv
  go_enter Try.func31, Try.ntmps31
  go_wp2
  go_end0
  exact ⟨rfl, R⟩

theorem connect_any (base b : Nat) (v : Value) (M : LM) (x y : Int) (w : World) (h : LRep base w b v M) (hl : M.l.length ≤ 100000) (hx : x < 0 ∨ x < M.l.length) (hy : y < 0 ∨ y < M.l.length) :
    Calls Try.prog 31 #[.pointer (some ⟨b, 0, none⟩), .int .i64 x, .int .i64 y] w fun e w' => e = .returned (.tuple #[]) ∧ cpost base b v (M.connect x y) w w' := by
  by_cases h1 : x < 0
  · by_cases h2 : y < 0
    · exact connect_nn base b v M x y w h hl h1 h2
    · exact connect_np base b v M x y w h hl h1 (by omega) (by omega)
  · by_cases h2 : y < 0
    · exact connect_pn base b v M x y w h hl (by omega) (by omega) h2
    · exact connect_pp base b v M x y w h hl (by omega) (by omega) (by omega) (by omega)

end Go.Proofs.Ytnlminaanccejaa
