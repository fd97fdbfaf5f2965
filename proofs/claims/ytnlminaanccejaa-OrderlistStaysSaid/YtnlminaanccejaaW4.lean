/- The walks of spread and Order. -/
import Derived.Test.YtnlminaanccejaaW3
import Derived.Deep.LoopGhost
namespace Go.Proofs.Ytnlminaanccejaa
open Go.RowKit Go.Hw
set_option linter.unusedVariables false
set_option linter.unusedSimpArgs false

def Chain (M : LM) : Int → List Nat → Prop
  | x, [] => x < 0
  | x, a :: r => x = a ∧ a < M.l.length ∧ Chain M (M.at a).nxt r

def LM.setLab (M : LM) (a : Nat) (lb : Int) : LM :=
  if (M.at a).label = lb then M else { M.upd a (fun e => { e with label := lb }) with moves := M.moves + 1 }
def spreadL (step : Int) : LM → Int → List Nat → LM
  | M, _, [] => M
  | M, lb, a :: r => spreadL step (M.setLab a lb) (lb + step) r
def LM.spread (M : LM) (ord : List Nat) : LM := spreadL (1099511627776 / (M.n + 1)) M (1099511627776 / (M.n + 1)) ord

theorem setLab_len (M : LM) (a : Nat) (lb : Int) : (M.setLab a lb).l.length = M.l.length := by
  unfold LM.setLab; split <;> simp [LM.upd]
theorem setLab_at (M : LM) (a k : Nat) (lb : Int) : (M.setLab a lb).at k = if k = a ∧ k < M.l.length then { M.at k with label := lb } else M.at k := by
  unfold LM.setLab
  split
  · rename_i h
    split
    · rename_i h2; rw [h2.1, ← h]
    · rfl
  · simp only [LM.at, LM.upd, List.getD_eq_getElem?_getD, Int.toNat_natCast]
    rw [List.getElem?_set]
    split
    · rename_i h2; subst h2
      split
      · rename_i h3; simp; omega
      · rename_i h3; simp [List.getElem?_eq_none (Nat.le_of_not_lt h3)]; omega
    · rename_i h2
      rw [if_neg (by intro h3; exact h2 h3.1.symm)]
theorem setLab_nxt (M : LM) (a k : Nat) (lb : Int) : ((M.setLab a lb).at k).nxt = (M.at k).nxt := by
  rw [setLab_at]; split <;> rfl
theorem chain_setLab (M : LM) (a : Nat) (lb : Int) (r : List Nat) : ∀ x, Chain M x r → Chain (M.setLab a lb) x r := by
  induction r with
  | nil => intro x h; exact h
  | cons k r ih => intro x h; exact ⟨h.1, by rw [setLab_len]; exact h.2.1, by rw [setLab_nxt]; exact ih _ h.2.2⟩
theorem setLab_moves (M : LM) (a : Nat) (lb : Int) : M.moves ≤ (M.setLab a lb).moves ∧ (M.setLab a lb).moves ≤ M.moves + 1 := by
  unfold LM.setLab; split <;> simp [LM.upd] <;> omega

set_option maxHeartbeats 1000000 in
theorem spread_any (base b : Nat) (v : Value) (M : LM) (ord : List Nat) (w : World) (h : LRep base w b v M) (hch : Chain M M.first ord) (hn : M.n = ord.length)
    (ho : ord.length ≤ 2000) (hl : M.l.length ≤ 2000) (hm0 : 0 ≤ M.moves) (hm1 : M.moves ≤ 1000000000) :
    Calls Try.prog 29 #[.pointer (some ⟨b, 0, none⟩)] w fun e w' => e = .returned (.tuple #[]) ∧ cpost base b v (M.spread ord) w w' := by
  have c1 := h.c1
  have c3 := h.c3
  have hn0 : 0 ≤ M.n := by omega
  have hn2 : M.n ≤ 2000 := by omega
  obtain ⟨F, hF⟩ : ∃ F, F = M.spread ord := ⟨_, rfl⟩
  rw [← hF]
  have hs : spreadL (1099511627776 / (M.n + 1)) M (1099511627776 / (M.n + 1)) ord = F := hF.symm
  have hstep : 1099511627776 / (M.n + 1) + 1099511627776 / (M.n + 1) * (ord.length : Int) ≤ 1099511627776 := by
    rw [← hn]
    have := Int.ediv_mul_le 1099511627776 (b := M.n + 1) (by omega)
    rw [Int.mul_add, Int.mul_one] at this
    omega
  have hstep0 : 0 ≤ 1099511627776 / (M.n + 1) := Int.ediv_nonneg (by omega) (by omega)
  have hst : Hid (1099511627776 / (M.n + 1) + 1099511627776 / (M.n + 1) * (ord.length : Int) ≤ 1099511627776 ∧ spreadL (1099511627776 / (M.n + 1)) M (1099511627776 / (M.n + 1)) ord = F ∧ LRep base w b v M ∧ Chain M M.first ord) := ⟨hstep, hs, h, hch⟩
  clear hstep hs hF h hch hn
  go_enter Try.func29, Try.ntmps29
  go_wp2_with fail
  obtain ⟨hstep, hs, h, hch⟩ := hst
  have hlt : (0 : Int) ≤ 1099511627776 / (M.n + 1) * (ord.length : Int) := Int.mul_nonneg hstep0 (by omega)
  generalize 1099511627776 / (M.n + 1) = step at *
  go_loopg [3, 4] ord.length (fun g s3 s4 wr => ∃ (r : List Nat) (Mk : LM) (lb x : Int), g = r.length ∧ s3 = .int .i64 lb ∧ s4 = .int .i64 x ∧ Hid (Chain Mk x r) ∧ Hid (LRep base wr b v Mk) ∧ Hid (Upd (own b v) w wr) ∧ Hid (spreadL step Mk lb r = F) ∧
     r.length ≤ ord.length ∧ 0 ≤ lb ∧ lb ≤ 2199023255552 ∧ Hid (lb + step * (r.length : Int) ≤ 1099511627776) ∧ Hid (Mk.l.length = M.l.length) ∧ 0 ≤ Mk.moves ∧ Mk.moves + r.length ≤ 1000000000 + ord.length)
  case atStart => exact ⟨ord, M, step, M.first, rfl, rfl, rfl, hch, h, Upd.refl _ _, hs, Nat.le_refl _, hstep0, by omega, hstep, rfl, hm0, by omega⟩
  case round =>
    obtain ⟨r, Mk, lb, x, rfl, rfl, rfl, Hch, Hrep, Hu, Hs, hr, hlb0, hlb1, Hb, Hlen, hk0, hk1⟩ := hrel
    clear c1 c3 hch h hs hstep
    cases r with
    | nil =>
      have hx : x < 0 := Hch.out
      go_wp2
      go_end0
      exact ⟨rfl, by rw [← Hs.out]; exact Hrep.out, Hu.out⟩
    | cons a r =>
      obtain ⟨hx, ha, hch'⟩ := Hch.out
      subst hx
      have H := Hrep.out
      have hb := Hb.out
      have hlen := Hlen.out
      simp only [List.length_cons] at hk1 hr hb
      have hb2 : lb + step + step * (r.length : Int) ≤ 1099511627776 := by
        rw [show ((r.length + 1 : Nat) : Int) = (r.length : Int) + 1 from by omega, Int.mul_add, Int.mul_one] at hb; omega
      have hb3 : (0 : Int) ≤ step * (r.length : Int) := Int.mul_nonneg hstep0 (by omega)
      obtain ⟨g, cap, hv, hgb, hg0, hgs⟩ := H.row (by omega)
      have c0 := H.c0
      rw [hv] at c0
      have e0 : wr.cell? ⟨g, a * 4, none⟩ = some (.int .i64 (Mk.at a).label) := H.el hv (i := a) ha (j := 0) (by omega)
      have e2 : wr.cell? ⟨g, a * 4 + 2, none⟩ = some (.int .i64 (Mk.at a).nxt) := H.el hv (i := a) ha (j := 2) (by omega)
      have f0 := H.fzEl hv (a * 4)
      have c4 := H.c4
      have f4 := H.fz 4
      have hgb' : ¬ b = g := fun e => hgb e.symm
      by_cases heq : (Mk.at a).label = lb
      · have hset : Mk.setLab a lb = Mk := by simp [LM.setLab, heq]
        have R : Hid (Chain Mk (Mk.at a).nxt r ∧ LRep base wr b v Mk ∧ Upd (own b v) w wr ∧ spreadL step Mk (lb + step) r = F ∧ lb + step + step * (r.length : Int) ≤ 1099511627776 ∧ Mk.l.length = M.l.length) :=
          ⟨hch', H, Hu.out, by rw [← Hs.out]; simp only [spreadL]; rw [hset], hb2, hlen⟩
        have t1 : ((Mk.at a).label != lb) = false := by simp [heq]
        have hlbs : lb + step ≤ 1099511627776 := by omega
        generalize (Mk.at a).label = L at *
        generalize (Mk.at a).nxt = N at *
        clear Hrep Hu Hs Hch hch' hset H hb hb2 Hb Hlen hv heq c4 f4 f0
        go_wp2
        go_roundg r.length
        case measure => simp
        case rel =>
          obtain ⟨r1, r2, r3, r4, r5, r6⟩ := R
          exact ⟨r, Mk, lb + step, N, rfl, by go_num, rfl, r1, r2, r3, r4, by omega, by omega, by omega, r5, r6, hk0, by omega⟩
      · have hmv : (Mk.setLab a lb).moves = Mk.moves + 1 := by simp [LM.setLab, heq]
        have hrep2 : LRep base ((wr.setCell ⟨g, a * 4, none⟩ (.int .i64 lb)).setCell ⟨b, 4, none⟩ (.int .i64 (Mk.moves + 1))) b v (Mk.setLab a lb) := by
          have h1 := H.setEl hv ha (j := 0) (by omega) (.int .i64 lb) { Mk.at a with label := lb } rfl
          have h2 := h1.set4 (Mk.moves + 1)
          have e : Mk.setLab a lb = { Mk.upd a (fun e => { e with label := lb }) with moves := Mk.moves + 1 } := by simp [LM.setLab, heq]
          rw [e]
          exact h2
        have R : Hid (Chain (Mk.setLab a lb) (Mk.at a).nxt r ∧ LRep base ((wr.setCell ⟨g, a * 4, none⟩ (.int .i64 lb)).setCell ⟨b, 4, none⟩ (.int .i64 (Mk.moves + 1))) b v (Mk.setLab a lb) ∧
            Upd (own b v) w ((wr.setCell ⟨g, a * 4, none⟩ (.int .i64 lb)).setCell ⟨b, 4, none⟩ (.int .i64 (Mk.moves + 1))) ∧ spreadL step (Mk.setLab a lb) (lb + step) r = F ∧ lb + step + step * (r.length : Int) ≤ 1099511627776 ∧ (Mk.setLab a lb).l.length = M.l.length) :=
          ⟨chain_setLab _ _ _ _ _ hch', hrep2, (Hu.out.setCell (.inl (.inr (by rw [hv]; rfl))) _).setCell (.inl (.inl rfl)) _, by rw [← Hs.out]; rfl, hb2, by rw [setLab_len]; exact hlen⟩
        have t1 : ((Mk.at a).label != lb) = true := by simp [heq]
        have hlbs : lb + step ≤ 1099511627776 := by omega
        generalize (Mk.at a).label = L at *
        generalize (Mk.at a).nxt = N at *
        have Hmv := Lib.hid hmv
        clear Hrep Hu Hs Hch hch' H hb hb2 Hb Hlen hv heq hrep2 hmv
        go_wp2
        go_roundg r.length
        case measure => simp
        case rel =>
          obtain ⟨r1, r2, r3, r4, r5, r6⟩ := R
          exact ⟨r, Mk.setLab a lb, lb + step, N, rfl, by go_num, rfl, r1, r2, r3, r4, by omega, by omega, by omega, r5, r6, by rw [Hmv.out]; omega, by rw [Hmv.out]; omega⟩

end Go.Proofs.Ytnlminaanccejaa
