/- The walk of the law OrderlistLabels. -/
import Derived.Test.YtnlminaanccejaaF1
import Derived.BigQuiet
namespace Go.Proofs.Ytnlminaanccejaa
open Go.RowKit Go.Hw
set_option linter.unusedVariables false
set_option linter.unusedSimpArgs false

/-- the label of the element at place k, and the one before -/
def lastL (M : LM) (ord : List Nat) (k : Nat) : Int := if k = 0 then -1 else lbl M (ord.getD (k - 1) 0)
theorem lastL_succ (M : LM) (ord : List Nat) (k : Nat) : lastL M ord (k + 1) = lbl M (ord.getD k 0) := by simp [lastL]
theorem pos_elem {ord : List Nat} {k : Nat} (h : k < ord.length) : 0 ≤ pos ord (ord.getD k 0 : Nat) := by
  rcases pos_bd ord (ord.getD k 0 : Nat) with e | e
  · exact absurd rfl (pos_none e _ (getD_mem h))
  · exact e.1
theorem Good.labelAt {M : LM} {ord : List Nat} {n k : Nat} (hg : Good M ord n) (h : k < ord.length) : M.labelR (ord.getD k 0 : Nat) = (lbl M (ord.getD k 0), 0) := by
  rw [hg.label, if_pos (pos_elem h)]
  obtain ⟨i, hi⟩ := Int.eq_ofNat_of_zero_le (pos_elem h)
  obtain ⟨h1, h2⟩ := pos_at hi
  rw [hi]
  simp only [Int.toNat_natCast]
  have : ord.getD i 0 = ord.getD k 0 := by omega
  rw [this]
theorem Good.lastL_bd {M : LM} {ord : List Nat} {n k : Nat} (hg : Good M ord n) (h : k < ord.length) : lastL M ord k < lbl M (ord.getD k 0) ∧ lbl M (ord.getD k 0) ≤ 1099511627776 ∧ 0 ≤ lbl M (ord.getD k 0) := by
  have hl := hg.inv.lab (ord.getD k 0) (hg.inv.lt _ (getD_mem h))
  refine ⟨?_, hl.2, hl.1⟩
  unfold lastL
  split
  · omega
  · exact hg.inv.asc (k - 1) k (by omega) h

set_option maxRecDepth 100000 in
set_option maxHeartbeats 4000000 in
theorem labels_law (v0 : Value) (steps : List St) (x : Int) (w : World) (h : StR w v0 steps) :
    Calls Try.prog 5 #[v0, .int .i64 x] w fun e w' => e = .returned (.bool true) ∧ Ext w w' := by
  obtain ⟨a0, cap0, hv⟩ := h.shape
  subst hv
  have hk := Lib.hid h
  clear h
  by_cases hbig : 120 < steps.length
  · go_enter Try.func5, Try.ntmps5
    go_wp2_with fail
    refine (awake_any _).mono ?_
    rintro e w1 ⟨rfl, hE⟩
    go_wp2_with fail
    go_ret
    exact ⟨rfl, hE⟩
  · go_enter Try.func5, Try.ntmps5
    go_wp2_with fail
    refine (awake_any _).mono ?_
    rintro e w1 ⟨rfl, hE⟩
    have HE := Lib.hid hE
    clear hE
    go_wp2_with fail
    refine (play_any _ steps w1 ((hk.out.kept HE.out (fun _ _ h => h)).weaken (fun k hk => by have := HE.out.size; omega)) (by omega)).mono ?_
    rintro e w2 ⟨b, v, M, ord, n, sl, S, rfl, hrep, hG, hP, hn, hls, hS, hE2⟩
    obtain ⟨a, cap1, hv⟩ := hls.shape
    subst hv
    have hE3 : Ext w2 (w2.alloc (.cells #[.slice a ord.length cap1, .int .i64 n] 27)) := (Upd.refl _ w2).alloc _
    have hB : (w2.alloc (.cells #[.slice a ord.length cap1, .int .i64 n] 27)).heap[w2.heap.size]? = some (.cells #[.slice a ord.length cap1, .int .i64 n] 27) := alloc0 _ _
    have hol : ord.length ≤ 2000 := by have := hG.inv.ordLen; have := hG.inv.len; omega
    have HX : Hid (∀ W, Ext w2 W → LRep w1.heap.size W b v M ∧ LsR S W (.slice a ord.length cap1) ord ∧ (∀ k, S k → k < W.heap.size) ∧ Ext w W) := fun W hW =>
      ⟨hrep.kept hW (fun _ _ h => h), hls.kept hW (fun _ _ h => h), fun k hk => by have := (hS k hk).1; have := hW.size; omega, (HE.out.ext hE2).ext hW⟩
    have HG := Lib.hid hG
    have hrep3 := hrep.kept hE3 (fun _ _ h => h)
    have d0 : (w2.alloc (.cells #[.slice a ord.length cap1, .int .i64 n] 27)).cell? ⟨w2.heap.size, 0, none⟩ = some (.slice a ord.length cap1) := by rw [cell_of_row _ _ 0 _ _ _ hB]; rfl
    have d1 : (w2.alloc (.cells #[.slice a ord.length cap1, .int .i64 n] 27)).cell? ⟨w2.heap.size, 1, none⟩ = some (.int .i64 n) := by rw [cell_of_row _ _ 1 _ _ _ hB]; rfl
    have Hol : Hid (ord.length ≤ 2000) := hol
    have HE3 := Lib.hid hE3
    have HB := Lib.hid hB
    have hlbl := hG.label x
    have Hlbl := Lib.hid hlbl
    clear hE3 hB hrep hG hP hls hS hE2 hrep3 hol hlbl
    go_wp2_with fail
    generalize w2.alloc (.cells #[.slice a ord.length cap1, .int .i64 n] 27) = w3 at *
    obtain ⟨hr3, hl3, hs3, he3⟩ := HX.out _ HE3.out
    have C13 := at_any S _ ord n x w3 hl3 hs3 (by have := Hol.out; omega)
    have HC13 := Lib.hid C13
    clear hr3 hl3 hs3 he3 C13
    generalize hp : pos ord x = p at *
    have Hp := Lib.hid hp
    clear hp
    go_wp2_with fail
    refine HC13.out.mono ?_
    rintro e w4 ⟨rfl, hx4⟩
    have HE4 : Hid (Ext w2 w4) := HE3.out.ext hx4
    have HB4 : Hid (w4.heap[w2.heap.size]? = some (.cells #[.slice a ord.length cap1, .int .i64 n] 27)) := hx4.heap HB.out (fun h => h)
    clear hx4 HC13 HE3 HB
    clear d0 d1
    have d0 : w4.cell? ⟨w2.heap.size, 0, none⟩ = some (.slice a ord.length cap1) := by rw [cell_of_row _ _ 0 _ _ _ HB4.out]; rfl
    have d1 : w4.cell? ⟨w2.heap.size, 1, none⟩ = some (.int .i64 n) := by rw [cell_of_row _ _ 1 _ _ _ HB4.out]; rfl
    by_cases hpn : p < 0
    · go_wp2_with fail
      refine (label_any w1.heap.size b v M x w4 (HX.out _ HE4.out).1 HG.out.inv.wf).mono ?_
      rintro e w5 ⟨rfl, rfl⟩
      rw [Hlbl.out, if_neg (by omega)]
      unfold two
      go_wp2_with fail
      go_loopg [10, 47] ord.length (fun gk lk i wr => ∃ k : Nat, lk = .int .i64 (lastL M ord k) ∧ i = .int .i64 k ∧ gk = ord.length - k ∧ k ≤ ord.length ∧ Hid (Ext w2 wr))
      case atStart => exact ⟨0, rfl, rfl, rfl, Nat.zero_le _, HE4⟩
      case round =>
        obtain ⟨k, rfl, rfl, rfl, hkC, HR⟩ := hrel
        clear HE4 HB4 d0 d1
        by_cases hlt : k < ord.length
        · obtain ⟨hr5, hl5, hs5, he5⟩ := HX.out _ HR.out
          obtain ⟨g, off, cap, hv, hcc, hg, hj⟩ := hl5.pos (by omega)
          injection hv with e1 e2 e3
          subst e1; subst e3
          have hcel : wr.cell? ⟨g, off + k, none⟩ = some (.int .i64 (ord.getD k 0 : Nat)) := by
            rw [← ints_get ord k hlt, ← hj k (by omega)]
          have C19 := label_any w1.heap.size b v M (ord.getD k 0 : Nat) wr hr5 HG.out.inv.wf
          rw [HG.out.labelAt hlt] at C19
          obtain ⟨f1, f2, f3⟩ := HG.out.lastL_bd hlt
          have Hs := Lib.hid (lastL_succ M ord k)
          have HC19 := Lib.hid C19
          clear hr5 hl5 hs5 he5 hj C19 hg e2
          generalize lbl M (ord.getD k 0) = lb at *
          generalize ord.getD k 0 = X at *
          generalize lastL M ord k = la at *
          generalize hol : ord.length = L at *
          have hL2 : L ≤ 2000 := Hol.out
          have i0 : (0 : Int) ≤ (k : Int) := by omega
          have i1 : (k : Int) < (L : Int) := by omega
          go_wp2_with fail
          refine HC19.out.mono ?_
          rintro e w6 ⟨rfl, rfl⟩
          unfold two
          go_wp2_with fail
          go_roundg (L - (k + 1))
          case measure => omega
          case rel => exact ⟨k + 1, by rw [Hs.out], by go_num, rfl, by omega, HR⟩
        · obtain ⟨hr5, hl5, hs5, he5⟩ := HX.out _ HR.out
          have Hx := Lib.hid he5
          clear hr5 hl5 hs5 he5
          go_wp2_with fail
          go_ret
          exact ⟨rfl, Hx.out⟩
    · go_wp2_with fail
      go_loopg [10, 47] ord.length (fun gk lk i wr => ∃ k : Nat, lk = .int .i64 (lastL M ord k) ∧ i = .int .i64 k ∧ gk = ord.length - k ∧ k ≤ ord.length ∧ Hid (Ext w2 wr))
      case atStart => exact ⟨0, rfl, rfl, rfl, Nat.zero_le _, HE4⟩
      case round =>
        obtain ⟨k, rfl, rfl, rfl, hkC, HR⟩ := hrel
        clear HE4 HB4 d0 d1
        by_cases hlt : k < ord.length
        · obtain ⟨hr5, hl5, hs5, he5⟩ := HX.out _ HR.out
          obtain ⟨g, off, cap, hv, hcc, hg, hj⟩ := hl5.pos (by omega)
          injection hv with e1 e2 e3
          subst e1; subst e3
          have hcel : wr.cell? ⟨g, off + k, none⟩ = some (.int .i64 (ord.getD k 0 : Nat)) := by
            rw [← ints_get ord k hlt, ← hj k (by omega)]
          have C19 := label_any w1.heap.size b v M (ord.getD k 0 : Nat) wr hr5 HG.out.inv.wf
          rw [HG.out.labelAt hlt] at C19
          obtain ⟨f1, f2, f3⟩ := HG.out.lastL_bd hlt
          have Hs := Lib.hid (lastL_succ M ord k)
          have HC19 := Lib.hid C19
          clear hr5 hl5 hs5 he5 hj C19 hg e2
          generalize lbl M (ord.getD k 0) = lb at *
          generalize ord.getD k 0 = X at *
          generalize lastL M ord k = la at *
          generalize hol : ord.length = L at *
          have hL2 : L ≤ 2000 := Hol.out
          have i0 : (0 : Int) ≤ (k : Int) := by omega
          have i1 : (k : Int) < (L : Int) := by omega
          go_wp2_with fail
          refine HC19.out.mono ?_
          rintro e w6 ⟨rfl, rfl⟩
          unfold two
          go_wp2_with fail
          go_roundg (L - (k + 1))
          case measure => omega
          case rel => exact ⟨k + 1, by rw [Hs.out], by go_num, rfl, by omega, HR⟩
        · obtain ⟨hr5, hl5, hs5, he5⟩ := HX.out _ HR.out
          have Hx := Lib.hid he5
          clear hr5 hl5 hs5 he5
          go_wp2_with fail
          go_ret
          exact ⟨rfl, Hx.out⟩

end Go.Proofs.Ytnlminaanccejaa
