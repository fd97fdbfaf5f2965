/- The walks of New, Delete and Order. -/
import Derived.Test.YtnlminaanccejaaW4
import Derived.Test.YtnlminaanccejaaX1
import Derived.StillTailTactics
import Derived.Deep.RegionWith
namespace Go.Proofs.Ytnlminaanccejaa
open Go.RowKit Go.Hw
set_option linter.unusedVariables false
set_option linter.unusedSimpArgs false

def LM.off (M : LM) (x : Int) : LM := M.upd x (fun e => { e with inn := false })
def LM.del (M : LM) (x : Int) : LM := { ((M.connect (M.at x).prev (M.at x).nxt).off x) with n := M.n - 1 }

theorem delete_nil (x : Int) (w : World) :
    Calls Try.prog 20 #[.pointer none, .int .i64 x] w fun e w' => e = .returned (.int .i64 1) ∧ w = w' := by
  go_enter Try.func20, Try.ntmps20
  go_wp2
  go_ret
  exact ⟨rfl, rfl⟩
set_option maxHeartbeats 400000 in
theorem delete_no (base b : Nat) (v : Value) (M : LM) (x : Int) (w : World) (h : LRep base w b v M) (hw : WF M) (hx : M.has x = false) :
    Calls Try.prog 20 #[.pointer (some ⟨b, 0, none⟩), .int .i64 x] w fun e w' => e = .returned (.int .i64 12) ∧ w = w' := by
  have C := contains_any base b v M x w h hw
  rw [hx] at C
  have HC := Lib.hid C
  clear C hw h hx
  go_enter Try.func20, Try.ntmps20
  go_wp2_with (go_at_call 12; refine HC.out.mono ?_; rintro e w' ⟨rfl, rfl⟩)
  go_ret
  exact ⟨rfl, rfl⟩

theorem connect_len' (M : LM) (x y : Int) : (M.connect x y).l.length = M.l.length := by
  unfold LM.connect LM.conn1 LM.conn2; split <;> split <;> simp [LM.upd]
theorem connect_n' (M : LM) (x y : Int) : (M.connect x y).n = M.n := by
  unfold LM.connect LM.conn1 LM.conn2; split <;> split <;> simp [LM.upd]

theorem LRep.drewN {base : Nat} {w : World} {b : Nat} {v : Value} {M : LM} (h : LRep base w b v M) (n : Nat) : LRep base (w.drewN n) b v M := h

set_option maxHeartbeats 1000000 in
theorem delete_yes (base b : Nat) (v : Value) (M : LM) (x : Int) (w : World) (h : LRep base w b v M) (hw : WF M) (hx : M.has x = true) :
    Calls Try.prog 20 #[.pointer (some ⟨b, 0, none⟩), .int .i64 x] w fun e w' => e = .returned (.int .i64 0) ∧ cpost base b v (M.del x) w w' := by
  have hl := hw.len
  have C := contains_any base b v M x w h hw
  rw [hx] at C
  have HC := Lib.hid C
  obtain ⟨h0, h1, _⟩ := has_in hx
  obtain ⟨k, rfl⟩ := Int.eq_ofNat_of_zero_le h0
  obtain ⟨g, cap, c0, _, c1, c2, _⟩ := h.lab k (by omega)
  have lk := (hw.links k (by omega))
  have hpv := lk.2.1
  have hnx := lk.1
  have hn0 := hw.n0
  have hn1 := hw.n1
  have s1 : (0 : Int) ≤ (k : Int) := by omega
  generalize hP : (M.at (k : Int)).prev = Pv at *
  generalize hN : (M.at (k : Int)).nxt = Nx at *
  have hk : Hid (LRep base w b v M ∧ (M.at (k : Int)).prev = Pv ∧ (M.at (k : Int)).nxt = Nx ∧ v = .slice (some ⟨g, 0, none⟩) M.l.length cap ∧ WF M) :=
    ⟨h, hP, hN, by have := h.c0; rw [c0] at this; simpa using this.symm, hw⟩
  clear hP hN h hx hw C lk
  go_enter Try.func20, Try.ntmps20
  go_wp2_with fail
  refine HC.out.mono ?_; rintro e w' ⟨rfl, rfl⟩
  go_wp2_with fail
  go_still_tail 17, (by kernel_rfl)
  change wpList _ _ _ _ _ w.drew
  go_wp2_with fail
  refine (connect_any base b v M Pv Nx w.drew hk.out.1 (by omega) (by omega) (by omega)).mono ?_
  rintro e w1 ⟨rfl, H1, u1⟩
  have hlen : (M.connect Pv Nx).l.length = M.l.length := connect_len' _ _ _
  have hnn : (M.connect Pv Nx).n = M.n := connect_n' _ _ _
  have hv : v = .slice (some ⟨g, 0, none⟩) (M.connect Pv Nx).l.length cap := by rw [hlen]; exact hk.out.2.2.2.1
  have d0 : w1.cell? ⟨b, 0, none⟩ = some (.slice (some ⟨g, 0, none⟩) M.l.length cap) := by rw [H1.c0, hk.out.2.2.2.1]
  have hkl : k < (M.connect Pv Nx).l.length := by omega
  have d1 : w1.cell? ⟨g, k * 4 + 3, none⟩ = some (.bool ((M.connect Pv Nx).l.getD k default).inn) := H1.el hv (i := k) hkl (j := 3) (by omega)
  have f1 := H1.fzEl hv (k * 4 + 3)
  have d3 := H1.c3
  rw [hnn] at d3
  have f3 := H1.fz 3
  have hgb : ¬ g = b := fun e => H1.2.2.2 (by rw [hv, e]; rfl)
  have hgb' : ¬ b = g := fun e => hgb e.symm
  have R : Hid (cpost base b v (M.del (k : Int)) w ((w1.setCell ⟨g, k * 4 + 3, none⟩ (.bool false)).setCell ⟨b, 3, none⟩ (.int .i64 (M.n - 1)))) := by
    have h2 := (H1.setEl hv hkl (j := 3) (by omega) (.bool false) { (M.connect Pv Nx).l.getD k default with inn := false } rfl).set3 (M.n - 1)
    refine ⟨?_, ?_⟩
    · have e : M.del (k : Int) = { (M.connect Pv Nx).off (k : Int) with n := M.n - 1 } := by unfold LM.del; rw [hk.out.2.1, hk.out.2.2.1]
      rw [e]
      exact h2
    · exact ((u1.ofDrewN (n := 1)).setCell (.inl (.inr (by rw [hv]; rfl))) _).setCell (.inl (.inl rfl)) _
  generalize ((M.connect Pv Nx).l.getD k default).inn = I1 at *
  clear hk H1 u1 hlen hnn hv hkl c0 c1 c2
  go_wp2_with fail
  go_ret
  exact ⟨rfl, R.out⟩


theorem order_nil (w : World) :
    Calls Try.prog 15 #[.pointer none] w fun e w' => e = .returned (.slice none 0 0) ∧ w = w' := by
  go_enter Try.func15, Try.ntmps15
  go_wp2
  go_ret
  exact ⟨rfl, rfl⟩

/-- what Order leaves -/
def opost (ord : List Nat) (w : World) (e : Ending) (w' : World) : Prop :=
  ∃ u, e = .returned u ∧ w'.ownsRow w.heap.size 3 1 u ord.length (ints ord) ∧ Upd (fun _ => False) w w'

theorem upd_grown_new {w wr w' : World} {row : Option Nat} (h : Upd (fun _ => False) w wr) (hg : wr.grownBy w' row) (hr : ∀ k, row = some k → w.heap.size ≤ k) : Upd (fun _ => False) w w' :=
  ⟨hg.os.trans h.os, hg.tape.trans h.tape, hg.output.trans h.output, Nat.le_trans h.size hg.size,
   fun i hi _ => (hg.block i (Nat.lt_of_lt_of_le hi h.size) (fun e => by have := hr i e.symm; omega)).trans (h.block i hi (fun x => x))⟩

set_option maxHeartbeats 1000000 in
theorem order_any (base b : Nat) (v : Value) (M : LM) (ord : List Nat) (w : World) (h : LRep base w b v M) (hw : WF M) (hch : Chain M M.first ord) (ho : ord.length ≤ 2000) :
    Calls Try.prog 15 #[.pointer (some ⟨b, 0, none⟩)] w (opost ord w) := by
  obtain ⟨i0, hi, hz0, hz1, hz2⟩ := info_parts info3
  have c1 := h.c1
  have hl := hw.len
  have hk : Hid (LRep base w b v M ∧ WF M ∧ Chain M M.first ord) := ⟨h, hw, hch⟩
  clear h hw hch
  go_enter Try.func15, Try.ntmps15
  go_wp2_with fail
  go_loopg [3, 4] ord.length (fun g s3 s4 wr => ∃ (d r : List Nat) (x : Int), g = r.length ∧ s4 = .int .i64 x ∧ Hid (ord = d ++ r) ∧ Hid (Chain M x r) ∧ Hid (wr.ownsRow w.heap.size 3 1 s3 d.length (ints d)) ∧ Hid (Upd (fun _ => False) w wr) ∧ d.length + r.length ≤ 2000)
  case atStart => exact ⟨[], ord, M.first, rfl, rfl, rfl, hk.out.2.2, World.ownsRow_nil _ _ _ _, Upd.refl _ _, by simpa using ho⟩
  case round =>
    obtain ⟨d, r, x, rfl, rfl, Hd, Hch, Hown, Hu, hb⟩ := hrel
    cases r with
    | nil =>
      have hx : x < 0 := Hch.out
      go_wp2_with fail
      go_ret
      exact ⟨_, rfl, by rw [Hd.out, List.append_nil]; exact Hown.out, Hu.out⟩
    | cons a r =>
      obtain ⟨hx, ha, hch'⟩ := Hch.out
      subst hx
      have Hch2 := Lib.hid hch'
      have H : LRep base wr b v M := hk.out.1.kept Hu.out (fun _ _ h => h)
      obtain ⟨g, cap, c0, _, _, c2, _⟩ := H.lab a ha
      generalize hN : (M.at (a : Int)).nxt = Nx at *
      have hsz := Hu.out.size
      simp only [List.length_cons] at hb
      clear hch' H c1
      go_wp2_with (at_builtin; refine wpList_append_at _ rfl (.tmp 21) (.tmp 23) 25 rfl w.heap.size 3 i0 (.int .i64 0) 1 8 Try.underlying25 hi hz0 hz1 hz2 rfl (by decide) _ _ _ rfl (Hown.out.alloc _) ⟨wr.heap.size, 0, none⟩ 1 1 [.int .i64 a] rfl rfl ?c1 ?c2 ?c3 ?c4 ?c5 ?_)
      case c1 =>
        intro j u hj
        match j, hj with
        | 0, hj => simp at hj; subst hj; simp [Addr.add]
      case c2 => intro u hu; simp at hu; subst hu; rfl
      case c3 => unfold maxLen; omega
      case c4 => omega
      case c5 => simp; omega
      intro v' w2 hown' hgrow hblk
      have hu1 : Upd (fun _ => False) w (wr.alloc (.cells #[.int .i64 a] 3)) := Hu.out.alloc _
      have hu2 : Upd (fun _ => False) w w2 := upd_grown_new hu1 hgrow (fun k e => (Hown.out.lt k e).1)
      have d0 : w2.cell? ⟨b, 0, none⟩ = some (.slice (some ⟨g, 0, none⟩) M.l.length cap) := by
        have := hu2.cell (hk.out.1.c0) (fun x => x); rw [this]
        have := Hu.out.cell (hk.out.1.c0) (fun x => x); rw [← this]; exact c0
      have d2 : w2.cell? ⟨g, a * 4 + 2, none⟩ = some (.int .i64 Nx) := by
        have H2 : LRep base w2 b v M := hk.out.1.kept hu2 (fun _ _ h => h)
        obtain ⟨g', cap', e0, _, _, e2, _⟩ := H2.lab a ha
        rw [d0] at e0
        simp at e0
        rw [hN] at e2
        rw [e0.1]
        exact e2
      have R : Hid (w2.ownsRow w.heap.size 3 1 v' (d ++ [a]).length (ints (d ++ [a])) ∧ Upd (fun _ => False) w w2 ∧ ord = (d ++ [a]) ++ r) := by
        refine ⟨?_, hu2, by rw [Hd.out]; simp⟩
        have e : ints (d ++ [a]) = ints d ++ [.int .i64 a] := by simp [ints]
        rw [e, List.length_append]
        exact hown'
      have HN := Lib.hid hN
      clear hown' hgrow hblk hu1 hu2 Hown Hu Hd Hch c0 c2 hN
      go_wp2_with fail
      go_roundg r.length
      case measure => simp
      case rel => exact ⟨d ++ [a], r, Nx, rfl, rfl, R.out.2.2, Hch2.out, R.out.1, R.out.2.1, by simp; omega⟩

theorem new_any (w : World) :
    Calls Try.prog 25 #[] w fun e w' => e = .returned (.pointer (some ⟨w.heap.size, 0, none⟩)) ∧ w' = w.alloc (.cells #[.slice none 0 0, .int .i64 (-1), .int .i64 (-1), .int .i64 0, .int .i64 0] 59) := by
  go_enter Try.func25, Try.ntmps25
  go_wp2
  go_ret
  exact ⟨rfl, rfl⟩

end Go.Proofs.Ytnlminaanccejaa
