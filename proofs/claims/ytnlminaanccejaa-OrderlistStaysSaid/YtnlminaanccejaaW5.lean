/- The walk of InsertAfter. -/
import Derived.Test.YtnlminaanccejaaW4
import Derived.Test.YtnlminaanccejaaX1
namespace Go.Proofs.Ytnlminaanccejaa
open Go.RowKit Go.Hw
set_option linter.unusedVariables false
set_option linter.unusedSimpArgs false

def newEl (lb : Int) : El := ⟨lb, 0, 0, true⟩
def LM.push (M : LM) (lb : Int) : LM := { M with l := M.l ++ [newEl lb] }
def LM.prep (M : LM) (x : Int) (ord : List Nat) : LM := if M.gapHigh x - M.gapLow x < 2 then M.spread ord else M
def LM.mid (M : LM) (x : Int) : Int := (M.gapLow x + M.gapHigh x) / 2
def LM.ins (M : LM) (x : Int) : LM :=
  { (((M.push (M.mid x)).connect x M.l.length).connect M.l.length (M.after x)) with n := M.n + 1 }

/-- what an insertion leaves -/
def ipost (base b : Nat) (v : Value) (M' : LM) (r : Int × Int) (w : World) (e : Ending) (w' : World) : Prop :=
  ∃ v', e = .returned (two r) ∧ LRep base w' b v' M' ∧ Upd (own b v) w w' ∧ (∀ k, own b v' k → own b v k ∨ w.heap.size ≤ k)

theorem info61 : (Try.prog.info? 61).map (fun i => (i.zero, i.size, i.bytes)) = some (some (.agg #[.int .i64 0, .int .i64 0, .int .i64 0, .bool false]), 4, 32) := by kernel_rfl

theorem LRep.app {base : Nat} {w w1 : World} {b : Nat} {v v' : Value} {M : LM} {o : Obj} {lb : Int} (h : LRep base w b v M)
    (hown' : w1.ownsRow base 61 4 v' (M.l.length + 1) (elCells M.l ++ [.int .i64 lb, .int .i64 0, .int .i64 0, .bool true]))
    (hgrow : (w.alloc o).grownBy w1 v.ownBlock) (hblk : v'.ownBlock = v.ownBlock ∨ v'.ownBlock = some (w.heap.size + 1)) :
    w1.cell? ⟨b, 0, none⟩ = some v ∧ w1.frozen? ⟨b, 0, none⟩ = false ∧
    LRep base (w1.setCell ⟨b, 0, none⟩ v') b v' (M.push lb) ∧ Upd (own b v) w (w1.setCell ⟨b, 0, none⟩ v') ∧ (∀ k, own b v' k → own b v k ∨ w.heap.size ≤ k) := by
  have hb : w1.heap[b]? = w.heap[b]? := by
    rw [hgrow.block b (by have := h.lt; simp; omega) (fun e => h.2.2.2 e.symm)]
    exact Below.heap_alloc _ _ _ h.lt
  have hv' : v'.ownBlock ≠ some b := by
    rcases hblk with e | e
    · rw [e]; exact h.2.2.2
    · rw [e]; intro e2; have := h.lt; simp at e2; omega
  have hcell := h.1
  rw [← hb] at hcell
  refine ⟨by rw [cell_of_row w1 b 0 _ _ _ hcell]; rfl, frozen_of_row w1 b 0 _ _ hcell, ⟨?_, h.2.1, ?_, hv'⟩, ?_, ?_⟩
  · rw [heap_setCell_same w1 b 0 _ _ _ hcell]; simp [LM.push]
  · have e1 : elCells (M.push lb).l = elCells M.l ++ [.int .i64 lb, .int .i64 0, .int .i64 0, .bool true] := by
      simp [LM.push, elCells_append, elCells, El.cells, newEl]
    have e2 : (M.push lb).l.length = M.l.length + 1 := by simp [LM.push]
    rw [e1, e2]
    exact hown'.kept (row := some b) ⟨rfl, rfl, rfl, by simp [World.setCell], fun k _ hk => Below.heap_setCell _ _ _ _ (by intro e; exact hk (by rw [e]))⟩ (.inr hv')
  · have hu : Upd (own b v) w w1 := ((Upd.refl _ w).alloc o).trans ((Upd.of_grown hgrow).mono (fun k _ e => .inr e.symm))
    exact hu.setCell (.inl (.inl rfl)) _
  · intro k hk
    rcases hk with rfl | hk
    · exact .inl (.inl rfl)
    · rcases hblk with e | e
      · rw [e] at hk; exact .inl (.inr hk)
      · rw [e] at hk; simp at hk; right; omega

theorem own_some {w : World} {base e size : Nat} {v : Value} {n : Nat} {xs : List Value} (h : w.ownsRow base e size v n xs) (hn : 0 < n) :
    ∃ g cap, v = .slice (some ⟨g, 0, none⟩) n cap := by
  rcases h.2 with ⟨_, h2⟩ | ⟨g, cap, cur, hv, _⟩
  · omega
  · exact ⟨g, cap, hv⟩

theorem gapLow_bd {M : LM} (hw : WF M) (x : Int) (hx : x < M.l.length) : -1 ≤ M.gapLow x ∧ M.gapLow x ≤ 1099511627776 := by
  unfold LM.gapLow
  split
  · omega
  · obtain ⟨k, rfl⟩ := Int.eq_ofNat_of_zero_le (a := x) (by omega)
    have := (hw.links k (by omega)).2.2; omega
theorem gapHigh_bd {M : LM} (hw : WF M) (x : Int) (hx : x < M.l.length) : 0 ≤ M.gapHigh x ∧ M.gapHigh x ≤ 1099511627777 := by
  have ha := hw.after (x := x) (by omega)
  unfold LM.gapHigh
  split
  · omega
  · obtain ⟨k, hk⟩ := Int.eq_ofNat_of_zero_le (a := M.after x) (by omega)
    rw [hk] at ha ⊢
    have := (hw.links k (by omega)).2.2; omega

theorem conn1_len (M : LM) (x y : Int) : (M.conn1 x y).l.length = M.l.length := by unfold LM.conn1; split <;> simp [LM.upd]
theorem conn2_len (M : LM) (x y : Int) : (M.conn2 x y).l.length = M.l.length := by unfold LM.conn2; split <;> simp [LM.upd]
theorem connect_len (M : LM) (x y : Int) : (M.connect x y).l.length = M.l.length := by unfold LM.connect; rw [conn2_len, conn1_len]
theorem conn1_n (M : LM) (x y : Int) : (M.conn1 x y).n = M.n := by unfold LM.conn1; split <;> simp [LM.upd]
theorem conn2_n (M : LM) (x y : Int) : (M.conn2 x y).n = M.n := by unfold LM.conn2; split <;> simp [LM.upd]
theorem connect_n (M : LM) (x y : Int) : (M.connect x y).n = M.n := by unfold LM.connect; rw [conn2_n, conn1_n]

set_option maxRecDepth 100000 in
set_option maxHeartbeats 400000 in
theorem insert_nil (x : Int) (w : World) :
    Calls Try.prog 16 #[.pointer none, .int .i64 x] w fun e w' => e = .returned (.tuple #[.int .i64 0, .int .i64 1]) ∧ w = w' := by
  go_enter Try.func16, Try.ntmps16
  go_wp2
  go_ret2
  exact ⟨rfl, rfl⟩
set_option maxRecDepth 100000 in
set_option maxHeartbeats 400000 in
theorem insert_no (base b : Nat) (v : Value) (M : LM) (x : Int) (w : World) (h : LRep base w b v M) (hw : WF M) (hx : M.has x = false) (hx1 : x ≠ -1) :
    Calls Try.prog 16 #[.pointer (some ⟨b, 0, none⟩), .int .i64 x] w fun e w' => e = .returned (.tuple #[.int .i64 0, .int .i64 12]) ∧ w = w' := by
  have C := contains_any base b v M x w h hw
  rw [hx] at C
  have HC := Lib.hid C
  have t1 : (x != -1) = true := by simpa using hx1
  clear C hw h hx hx1
  go_enter Try.func16, Try.ntmps16
  go_wp2_with (go_at_call 12; refine HC.out.mono ?_; rintro e w' ⟨rfl, rfl⟩)
  go_ret2
  exact ⟨rfl, rfl⟩

set_option maxRecDepth 100000 in
set_option maxHeartbeats 400000 in
theorem insert_full_o (base b : Nat) (v : Value) (M : LM) (x : Int) (w : World) (h : LRep base w b v M) (hw : WF M) (hx : x = -1) (hl : 2000 ≤ M.l.length) :
    Calls Try.prog 16 #[.pointer (some ⟨b, 0, none⟩), .int .i64 x] w fun e w' => e = .returned (.tuple #[.int .i64 0, .int .i64 4]) ∧ w = w' := by
  have hl2 := hw.len
  obtain ⟨a, cap, hv⟩ := h.shape
  have c0 := h.c0
  rw [hv] at c0
  clear hw h hv 
  subst hx
  go_enter Try.func16, Try.ntmps16
  go_wp2_with fail
  go_ret2
  exact ⟨rfl, rfl⟩

set_option maxRecDepth 100000 in
set_option maxHeartbeats 1000000 in
theorem insert_ow (base b : Nat) (v : Value) (M : LM) (x : Int) (ord : List Nat) (w : World) (h : LRep base w b v M) (hw : WF M) (hx : x = -1) (hl : M.l.length < 2000)
    (hgap : 2 ≤ M.gapHigh x - M.gapLow x) (hbase : base ≤ w.heap.size) :
    Calls Try.prog 16 #[.pointer (some ⟨b, 0, none⟩), .int .i64 x] w (ipost base b v (M.ins x) (M.l.length, 0) w) := by
  have hl2 := hw.len
  obtain ⟨i0, hi, hz0, hz1, hz2⟩ := info_parts info61
  have hxlt : x < M.l.length := by omega
  have G := gap_any base b v M x w h hw (by omega)
  have HG := Lib.hid G
  have gl := gapLow_bd hw x hxlt
  have gh := gapHigh_bd hw x hxlt
  obtain ⟨a, cap, hv⟩ := h.shape
  have c0 := h.c0
  rw [hv] at c0
  have hlt := h.lt
  have hk : Hid (v = .slice a M.l.length cap ∧ LRep base w b v M ∧ WF M) := ⟨hv, h, hw⟩
  generalize hGL : M.gapLow x = GL at *
  generalize hGH : M.gapHigh x = GH at *
  have hGLH : Hid (M.gapLow x = GL ∧ M.gapHigh x = GH) := ⟨hGL, hGH⟩
  clear hGL hGH hw h hv
  clear G 
  subst hx
  go_enter Try.func16, Try.ntmps16
  go_wp2_with fail
  refine HG.out.mono ?_
  rintro e w' ⟨rfl, rfl⟩
  go_wp2_with fail
  refine (after_any base b v M (-1) w hk.out.2.1 (by omega) (by omega)).mono ?_
  rintro e w' ⟨rfl, rfl⟩
  have hA := (hk.out.2.2).after (x := (-1)) (by have : (M).l.length = M.l.length := rfl; omega)
  generalize hy : M.after (-1) = y at *
  have Hy := Lib.hid hy
  clear hy
  have hown : w.ownsRow base 61 4 (.slice a M.l.length cap) M.l.length (elCells M.l) := by
    have q := (hk.out.2.1).2.2.1
    rw [hk.out.1] at q
    have e2 : M.l.length = M.l.length := rfl
    rw [e2] at q
    exact q
  have Hown := Lib.hid hown
  clear hown
  have hsum2 : 0 ≤ GL + GH := by omega
  go_wp2_with (at_builtin; refine wpList_append_at _ rfl (.tmp 59) (.tmp 65) 57 rfl base 61 i0 (.agg #[.int .i64 0, .int .i64 0, .int .i64 0, .bool false]) 4 32 Try.underlying57 hi hz0 hz1 hz2 rfl (by decide) _ _ _ rfl (Hown.out.alloc _) ⟨w.heap.size, 0, none⟩ 1 1 [.int .i64 ((GL + GH) / 2), .int .i64 0, .int .i64 0, .bool true] rfl rfl ?c1 ?c2 ?c3 ?c4 ?c5 ?_)
  case c1 =>
    intro j u hj
    match j, hj with
    | 0, hj => simp at hj; subst hj; simp [Addr.add]
    | 1, hj => simp at hj; subst hj; simp [Addr.add]
    | 2, hj => simp at hj; subst hj; simp [Addr.add]
    | 3, hj => simp at hj; subst hj; simp [Addr.add]
  case c2 => intro u hu; simp at hu; rcases hu with rfl | rfl | rfl | rfl <;> rfl
  case c3 => unfold maxLen; omega
  case c4 => omega
  case c5 => simp; omega
  intro v' w2 hown' hgrow hblk
  obtain ⟨g', cap', hv'⟩ := own_some hown' (by omega)
  subst hv'
  have hval : M.mid (-1) = (GL + GH) / 2 := by unfold LM.mid; rw [hGLH.out.1, hGLH.out.2]
  have hlen1 : M.l.length = M.l.length := rfl
  obtain ⟨q1, q2, q3, q4, q5⟩ := (hk.out.2.1).app (o := (.cells #[.int .i64 ((GL + GH) / 2), .int .i64 0, .int .i64 0, .bool true] 61)) (lb := (GL + GH) / 2) (w1 := w2) (v' := .slice (some ⟨g', 0, none⟩) (M.l.length + 1) cap') (by rw [hlen1]; exact hown') (by rw [hk.out.1]; exact hgrow) (by rw [hk.out.1]; exact hblk)
  rw [hk.out.1] at q1
  have q3' : Hid (LRep base (w2.setCell ⟨b, 0, none⟩ (.slice (some ⟨g', 0, none⟩) (M.l.length + 1) cap')) b (.slice (some ⟨g', 0, none⟩) (M.l.length + 1) cap') (M.push (M.mid (-1))) ∧ Upd (own b v) w (w2.setCell ⟨b, 0, none⟩ (.slice (some ⟨g', 0, none⟩) (M.l.length + 1) cap')) ∧ (∀ k, own b (.slice (some ⟨g', 0, none⟩) (M.l.length + 1) cap') k → own b v k ∨ w.heap.size ≤ k) ∧ M.l.length = M.l.length) := ⟨by rw [hval]; exact q3, q4, q5, hlen1⟩
  clear q3 q4 q5 hval hlen1 hown' hgrow hblk
  go_wp2_with fail
  refine (connect_any base b (.slice (some ⟨g', 0, none⟩) (M.l.length + 1) cap') (M.push (M.mid (-1))) (-1) M.l.length (w2.setCell ⟨b, 0, none⟩ (.slice (some ⟨g', 0, none⟩) (M.l.length + 1) cap')) q3'.out.1 (by have := q3'.out.2.2.2; simp [LM.push] <;> omega) (by have := q3'.out.2.2.2; simp [LM.push] <;> omega) (by have := q3'.out.2.2.2; simp [LM.push] <;> omega)).mono ?_
  rintro e w3 ⟨rfl, hcp3⟩
  have Hcp3 := Lib.hid hcp3
  clear hcp3
  go_wp2_with fail
  refine (connect_any base b (.slice (some ⟨g', 0, none⟩) (M.l.length + 1) cap') ((M.push (M.mid (-1))).connect (-1) M.l.length) M.l.length y w3 Hcp3.out.1 (by have := q3'.out.2.2.2; rw [connect_len]; simp [LM.push] <;> omega) (by have := q3'.out.2.2.2; rw [connect_len]; simp [LM.push] <;> omega) (by have := q3'.out.2.2.2; rw [connect_len]; simp [LM.push] <;> omega)).mono ?_
  rintro e w4 ⟨rfl, hcp4⟩
  have c3 := hcp4.1.c3
  have f3 := hcp4.1.fz 3
  have hnn : (((M.push (M.mid (-1))).connect (-1) M.l.length).connect M.l.length y).n = M.n := by rw [connect_n, connect_n]; exact rfl
  rw [hnn] at c3
  have hn0 := (hk.out.2.2).n0
  have hn1 := (hk.out.2.2).n1
  have hmn : M.n = M.n := rfl
  rw [hmn] at hn0 hn1
  have hn2 : M.n ≤ M.l.length := by have e := q3'.out.2.2.2; omega
  have R : ipost base b v (M.ins (-1)) (M.l.length, 0) w (.returned (.tuple #[.int .i64 M.l.length, .int .i64 0])) (w4.setCell ⟨b, 3, none⟩ (.int .i64 (M.n + 1))) := by
    refine ⟨(.slice (some ⟨g', 0, none⟩) (M.l.length + 1) cap'), rfl, ?_, ?_, ?_⟩
    · have q := hcp4.1.set3 (M.n + 1)
      have e : M.ins (-1) = { (((M.push (M.mid (-1))).connect (-1) M.l.length).connect M.l.length y) with n := M.n + 1 } := by
        unfold LM.ins; rw [Hy.out]
      rw [e]
      exact q
    · have sub : ∀ k, k < w.heap.size → own b (.slice (some ⟨g', 0, none⟩) (M.l.length + 1) cap') k → own b v k := fun k hk hq => by
        rcases q3'.out.2.2.1 k hq with h | h
        · exact h
        · omega
      have U : Upd (own b v) w (w4.setCell ⟨b, 3, none⟩ (.int .i64 (M.n + 1))) :=
        q3'.out.2.1.trans' ((Hcp3.out.2.trans hcp4.2).setCell (.inl (.inl rfl)) _) sub
      exact U
    · intro k hk
      rcases q3'.out.2.2.1 k hk with h | h
      · exact .inl h
      · right; omega
  have HR := Lib.hid R
  clear R hnn hcp4 hmn Hy q3' Hcp3 hGLH hk
  have hb1 : M.n + 1 ≤ 3000 := by omega
  go_wp2_with fail
  go_ret2
  exact HR.out

set_option maxRecDepth 100000 in
set_option maxHeartbeats 1000000 in
theorem insert_os (base b : Nat) (v : Value) (M : LM) (x : Int) (ord : List Nat) (w : World) (h : LRep base w b v M) (hw : WF M) (hx : x = -1) (hl : M.l.length < 2000)
    (hch : Chain M M.first ord) (hn : M.n = ord.length) (ho : ord.length ≤ 2000) (hgap : M.gapHigh x - M.gapLow x < 2) (hw1 : WF (M.spread ord)) (hsl : (M.spread ord).l.length = M.l.length) (hsn : (M.spread ord).n = M.n) (hsum : 0 ≤ (M.spread ord).gapLow x + (M.spread ord).gapHigh x) (hbase : base ≤ w.heap.size) :
    Calls Try.prog 16 #[.pointer (some ⟨b, 0, none⟩), .int .i64 x] w (ipost base b v ((M.spread ord).ins x) (M.l.length, 0) w) := by
  have hl2 := hw.len
  obtain ⟨i0, hi, hz0, hz1, hz2⟩ := info_parts info61
  have hxlt : x < M.l.length := by omega
  have G := gap_any base b v M x w h hw (by omega)
  have HG := Lib.hid G
  have gl := gapLow_bd hw x hxlt
  have gh := gapHigh_bd hw x hxlt
  have hm := hw.m1
  have S := spread_any base b v M ord w h hch hn ho (by omega) hw.m0 (by omega)
  have HS := Lib.hid S
  obtain ⟨M1, hM1⟩ : ∃ M1, M1 = M.spread ord := ⟨_, rfl⟩
  rw [← hM1] at hw1 hsl hsn hsum HS ⊢
  have gl1 := gapLow_bd hw1 x (by omega)
  have gh1 := gapHigh_bd hw1 x (by omega)
  obtain ⟨a, cap, hv⟩ := h.shape
  have c0 := h.c0
  rw [hv] at c0
  have hlt := h.lt
  have hk : Hid (v = .slice a M.l.length cap ∧ LRep base w b v M ∧ WF M1 ∧ M1.l.length = M.l.length ∧ M1.n = M.n) := ⟨hv, h, hw1, hsl, hsn⟩
  generalize hGL : M.gapLow x = GL at *
  generalize hGH : M.gapHigh x = GH at *
  have hGLH : Hid (M.gapLow x = GL ∧ M.gapHigh x = GH) := ⟨hGL, hGH⟩
  clear hGL hGH S hw h hch hn hM1 hv hw1 hsl hsn
  clear G 
  subst hx
  go_enter Try.func16, Try.ntmps16
  go_wp2_with fail
  refine HG.out.mono ?_
  rintro e w' ⟨rfl, rfl⟩
  go_wp2_with fail
  refine HS.out.mono ?_
  rintro e w1 ⟨rfl, h1, u1⟩
  obtain ⟨hv, h, hw1, hsl, hsn⟩ := hk.out
  have hbase1 : base ≤ w1.heap.size := by have := u1.size; omega
  have hU1 := Lib.hid u1
  have hR1 := Lib.hid h1
  have hszW : w.heap.size ≤ w1.heap.size := u1.size
  clear u1 h1 h hv hsl hsn hw1 c0
  go_wp2_with fail
  refine (gap_any base b v M1 (-1) w1 hR1.out hk.out.2.2.1 (by have := hk.out.2.2.2.1; omega)).mono ?_
  rintro e w' ⟨rfl, rfl⟩
  generalize hGL1 : M1.gapLow (-1) = GL1 at *
  generalize hGH1 : M1.gapHigh (-1) = GH1 at *
  have hGLH1 : Hid (M1.gapLow (-1) = GL1 ∧ M1.gapHigh (-1) = GH1) := ⟨hGL1, hGH1⟩
  clear hGL1 hGH1
  have c0 : w1.cell? ⟨b, 0, none⟩ = some (.slice a M.l.length cap) := by rw [hR1.out.c0, hk.out.1]
  go_wp2_with fail
  refine (after_any base b v M1 (-1) w1 hR1.out (by have := hk.out.2.2.2.1; omega) (by have := hk.out.2.2.2.1; omega)).mono ?_
  rintro e w' ⟨rfl, rfl⟩
  have hA := (hk.out.2.2.1).after (x := (-1)) (by have : (M1).l.length = M.l.length := hk.out.2.2.2.1; omega)
  generalize hy : M1.after (-1) = y at *
  have Hy := Lib.hid hy
  clear hy
  have hown : w1.ownsRow base 61 4 (.slice a M.l.length cap) M.l.length (elCells M1.l) := by
    have q := (hR1.out).2.2.1
    rw [hk.out.1] at q
    have e2 : M1.l.length = M.l.length := hk.out.2.2.2.1
    rw [e2] at q
    exact q
  have Hown := Lib.hid hown
  clear hown
  have hsum2 : 0 ≤ GL1 + GH1 := by omega
  go_wp2_with (at_builtin; refine wpList_append_at _ rfl (.tmp 59) (.tmp 65) 57 rfl base 61 i0 (.agg #[.int .i64 0, .int .i64 0, .int .i64 0, .bool false]) 4 32 Try.underlying57 hi hz0 hz1 hz2 rfl (by decide) _ _ _ rfl (Hown.out.alloc _) ⟨w1.heap.size, 0, none⟩ 1 1 [.int .i64 ((GL1 + GH1) / 2), .int .i64 0, .int .i64 0, .bool true] rfl rfl ?c1 ?c2 ?c3 ?c4 ?c5 ?_)
  case c1 =>
    intro j u hj
    match j, hj with
    | 0, hj => simp at hj; subst hj; simp [Addr.add]
    | 1, hj => simp at hj; subst hj; simp [Addr.add]
    | 2, hj => simp at hj; subst hj; simp [Addr.add]
    | 3, hj => simp at hj; subst hj; simp [Addr.add]
  case c2 => intro u hu; simp at hu; rcases hu with rfl | rfl | rfl | rfl <;> rfl
  case c3 => unfold maxLen; omega
  case c4 => omega
  case c5 => simp; omega
  intro v' w2 hown' hgrow hblk
  obtain ⟨g', cap', hv'⟩ := own_some hown' (by omega)
  subst hv'
  have hval : M1.mid (-1) = (GL1 + GH1) / 2 := by unfold LM.mid; rw [hGLH1.out.1, hGLH1.out.2]
  have hlen1 : M1.l.length = M.l.length := hk.out.2.2.2.1
  obtain ⟨q1, q2, q3, q4, q5⟩ := (hR1.out).app (o := (.cells #[.int .i64 ((GL1 + GH1) / 2), .int .i64 0, .int .i64 0, .bool true] 61)) (lb := (GL1 + GH1) / 2) (w1 := w2) (v' := .slice (some ⟨g', 0, none⟩) (M.l.length + 1) cap') (by rw [hlen1]; exact hown') (by rw [hk.out.1]; exact hgrow) (by rw [hk.out.1]; exact hblk)
  rw [hk.out.1] at q1
  have q3' : Hid (LRep base (w2.setCell ⟨b, 0, none⟩ (.slice (some ⟨g', 0, none⟩) (M.l.length + 1) cap')) b (.slice (some ⟨g', 0, none⟩) (M.l.length + 1) cap') (M1.push (M1.mid (-1))) ∧ Upd (own b v) w1 (w2.setCell ⟨b, 0, none⟩ (.slice (some ⟨g', 0, none⟩) (M.l.length + 1) cap')) ∧ (∀ k, own b (.slice (some ⟨g', 0, none⟩) (M.l.length + 1) cap') k → own b v k ∨ w1.heap.size ≤ k) ∧ M1.l.length = M.l.length) := ⟨by rw [hval]; exact q3, q4, q5, hlen1⟩
  clear q3 q4 q5 hval hlen1 hown' hgrow hblk
  go_wp2_with fail
  refine (connect_any base b (.slice (some ⟨g', 0, none⟩) (M.l.length + 1) cap') (M1.push (M1.mid (-1))) (-1) M.l.length (w2.setCell ⟨b, 0, none⟩ (.slice (some ⟨g', 0, none⟩) (M.l.length + 1) cap')) q3'.out.1 (by have := q3'.out.2.2.2; simp [LM.push] <;> omega) (by have := q3'.out.2.2.2; simp [LM.push] <;> omega) (by have := q3'.out.2.2.2; simp [LM.push] <;> omega)).mono ?_
  rintro e w3 ⟨rfl, hcp3⟩
  have Hcp3 := Lib.hid hcp3
  clear hcp3
  go_wp2_with fail
  refine (connect_any base b (.slice (some ⟨g', 0, none⟩) (M.l.length + 1) cap') ((M1.push (M1.mid (-1))).connect (-1) M.l.length) M.l.length y w3 Hcp3.out.1 (by have := q3'.out.2.2.2; rw [connect_len]; simp [LM.push] <;> omega) (by have := q3'.out.2.2.2; rw [connect_len]; simp [LM.push] <;> omega) (by have := q3'.out.2.2.2; rw [connect_len]; simp [LM.push] <;> omega)).mono ?_
  rintro e w4 ⟨rfl, hcp4⟩
  have c3 := hcp4.1.c3
  have f3 := hcp4.1.fz 3
  have hnn : (((M1.push (M1.mid (-1))).connect (-1) M.l.length).connect M.l.length y).n = M.n := by rw [connect_n, connect_n]; exact hk.out.2.2.2.2
  rw [hnn] at c3
  have hn0 := (hk.out.2.2.1).n0
  have hn1 := (hk.out.2.2.1).n1
  have hmn : M1.n = M.n := hk.out.2.2.2.2
  rw [hmn] at hn0 hn1
  have hn2 : M.n ≤ M.l.length := by have e := q3'.out.2.2.2; omega
  have R : ipost base b v (M1.ins (-1)) (M.l.length, 0) w (.returned (.tuple #[.int .i64 M.l.length, .int .i64 0])) (w4.setCell ⟨b, 3, none⟩ (.int .i64 (M.n + 1))) := by
    refine ⟨(.slice (some ⟨g', 0, none⟩) (M.l.length + 1) cap'), rfl, ?_, ?_, ?_⟩
    · have q := hcp4.1.set3 (M.n + 1)
      have e : M1.ins (-1) = { (((M1.push (M1.mid (-1))).connect (-1) M.l.length).connect M.l.length y) with n := M.n + 1 } := by
        unfold LM.ins; rw [q3'.out.2.2.2, Hy.out, hmn]
      rw [e]
      exact q
    · have sub : ∀ k, k < w1.heap.size → own b (.slice (some ⟨g', 0, none⟩) (M.l.length + 1) cap') k → own b v k := fun k hk hq => by
        rcases q3'.out.2.2.1 k hq with h | h
        · exact h
        · omega
      have U : Upd (own b v) w1 (w4.setCell ⟨b, 3, none⟩ (.int .i64 (M.n + 1))) :=
        q3'.out.2.1.trans' ((Hcp3.out.2.trans hcp4.2).setCell (.inl (.inl rfl)) _) sub
      exact hU1.out.trans U
    · intro k hk
      rcases q3'.out.2.2.1 k hk with h | h
      · exact .inl h
      · right; omega
  have HR := Lib.hid R
  clear R hnn hcp4 hmn Hy q3' Hcp3 hGLH hk
  have hb1 : M.n + 1 ≤ 3000 := by omega
  go_wp2_with fail
  go_ret2
  exact HR.out

set_option maxRecDepth 100000 in
set_option maxHeartbeats 400000 in
theorem insert_full_h (base b : Nat) (v : Value) (M : LM) (x : Int) (w : World) (h : LRep base w b v M) (hw : WF M) (hx : M.has x = true) (hl : 2000 ≤ M.l.length) :
    Calls Try.prog 16 #[.pointer (some ⟨b, 0, none⟩), .int .i64 x] w fun e w' => e = .returned (.tuple #[.int .i64 0, .int .i64 4]) ∧ w = w' := by
  have hl2 := hw.len
  have C := contains_any base b v M x w h hw
  rw [hx] at C
  have HC := Lib.hid C
  have hxr := has_in hx
  have t1 : (x != -1) = true := by simp; omega
  clear C
  obtain ⟨a, cap, hv⟩ := h.shape
  have c0 := h.c0
  rw [hv] at c0
  clear hw h hv hx
  go_enter Try.func16, Try.ntmps16
  go_wp2_with fail
  refine HC.out.mono ?_
  rintro e w' ⟨rfl, rfl⟩
  go_wp2_with fail
  go_ret2
  exact ⟨rfl, rfl⟩

set_option maxRecDepth 100000 in
set_option maxHeartbeats 1000000 in
theorem insert_hw (base b : Nat) (v : Value) (M : LM) (x : Int) (ord : List Nat) (w : World) (h : LRep base w b v M) (hw : WF M) (hx : M.has x = true) (hl : M.l.length < 2000)
    (hgap : 2 ≤ M.gapHigh x - M.gapLow x) (hbase : base ≤ w.heap.size) :
    Calls Try.prog 16 #[.pointer (some ⟨b, 0, none⟩), .int .i64 x] w (ipost base b v (M.ins x) (M.l.length, 0) w) := by
  have hl2 := hw.len
  obtain ⟨i0, hi, hz0, hz1, hz2⟩ := info_parts info61
  have C := contains_any base b v M x w h hw
  rw [hx] at C
  have HC := Lib.hid C
  have hxr := has_in hx
  have t1 : (x != -1) = true := by simp; omega
  clear C
  have hxlt : x < M.l.length := by omega
  have G := gap_any base b v M x w h hw (by omega)
  have HG := Lib.hid G
  have gl := gapLow_bd hw x hxlt
  have gh := gapHigh_bd hw x hxlt
  obtain ⟨a, cap, hv⟩ := h.shape
  have c0 := h.c0
  rw [hv] at c0
  have hlt := h.lt
  have hk : Hid (v = .slice a M.l.length cap ∧ LRep base w b v M ∧ WF M) := ⟨hv, h, hw⟩
  generalize hGL : M.gapLow x = GL at *
  generalize hGH : M.gapHigh x = GH at *
  have hGLH : Hid (M.gapLow x = GL ∧ M.gapHigh x = GH) := ⟨hGL, hGH⟩
  clear hGL hGH hw h hv
  clear G hx
  go_enter Try.func16, Try.ntmps16
  go_wp2_with fail
  refine HC.out.mono ?_
  rintro e w' ⟨rfl, rfl⟩
  go_wp2_with fail
  refine HG.out.mono ?_
  rintro e w' ⟨rfl, rfl⟩
  go_wp2_with fail
  refine (after_any base b v M x w hk.out.2.1 (by omega) (by omega)).mono ?_
  rintro e w' ⟨rfl, rfl⟩
  have hA := (hk.out.2.2).after (x := x) (by have : (M).l.length = M.l.length := rfl; omega)
  generalize hy : M.after x = y at *
  have Hy := Lib.hid hy
  clear hy
  have hown : w.ownsRow base 61 4 (.slice a M.l.length cap) M.l.length (elCells M.l) := by
    have q := (hk.out.2.1).2.2.1
    rw [hk.out.1] at q
    have e2 : M.l.length = M.l.length := rfl
    rw [e2] at q
    exact q
  have Hown := Lib.hid hown
  clear hown
  have hsum2 : 0 ≤ GL + GH := by omega
  go_wp2_with (at_builtin; refine wpList_append_at _ rfl (.tmp 59) (.tmp 65) 57 rfl base 61 i0 (.agg #[.int .i64 0, .int .i64 0, .int .i64 0, .bool false]) 4 32 Try.underlying57 hi hz0 hz1 hz2 rfl (by decide) _ _ _ rfl (Hown.out.alloc _) ⟨w.heap.size, 0, none⟩ 1 1 [.int .i64 ((GL + GH) / 2), .int .i64 0, .int .i64 0, .bool true] rfl rfl ?c1 ?c2 ?c3 ?c4 ?c5 ?_)
  case c1 =>
    intro j u hj
    match j, hj with
    | 0, hj => simp at hj; subst hj; simp [Addr.add]
    | 1, hj => simp at hj; subst hj; simp [Addr.add]
    | 2, hj => simp at hj; subst hj; simp [Addr.add]
    | 3, hj => simp at hj; subst hj; simp [Addr.add]
  case c2 => intro u hu; simp at hu; rcases hu with rfl | rfl | rfl | rfl <;> rfl
  case c3 => unfold maxLen; omega
  case c4 => omega
  case c5 => simp; omega
  intro v' w2 hown' hgrow hblk
  obtain ⟨g', cap', hv'⟩ := own_some hown' (by omega)
  subst hv'
  have hval : M.mid x = (GL + GH) / 2 := by unfold LM.mid; rw [hGLH.out.1, hGLH.out.2]
  have hlen1 : M.l.length = M.l.length := rfl
  obtain ⟨q1, q2, q3, q4, q5⟩ := (hk.out.2.1).app (o := (.cells #[.int .i64 ((GL + GH) / 2), .int .i64 0, .int .i64 0, .bool true] 61)) (lb := (GL + GH) / 2) (w1 := w2) (v' := .slice (some ⟨g', 0, none⟩) (M.l.length + 1) cap') (by rw [hlen1]; exact hown') (by rw [hk.out.1]; exact hgrow) (by rw [hk.out.1]; exact hblk)
  rw [hk.out.1] at q1
  have q3' : Hid (LRep base (w2.setCell ⟨b, 0, none⟩ (.slice (some ⟨g', 0, none⟩) (M.l.length + 1) cap')) b (.slice (some ⟨g', 0, none⟩) (M.l.length + 1) cap') (M.push (M.mid x)) ∧ Upd (own b v) w (w2.setCell ⟨b, 0, none⟩ (.slice (some ⟨g', 0, none⟩) (M.l.length + 1) cap')) ∧ (∀ k, own b (.slice (some ⟨g', 0, none⟩) (M.l.length + 1) cap') k → own b v k ∨ w.heap.size ≤ k) ∧ M.l.length = M.l.length) := ⟨by rw [hval]; exact q3, q4, q5, hlen1⟩
  clear q3 q4 q5 hval hlen1 hown' hgrow hblk
  go_wp2_with fail
  refine (connect_any base b (.slice (some ⟨g', 0, none⟩) (M.l.length + 1) cap') (M.push (M.mid x)) x M.l.length (w2.setCell ⟨b, 0, none⟩ (.slice (some ⟨g', 0, none⟩) (M.l.length + 1) cap')) q3'.out.1 (by have := q3'.out.2.2.2; simp [LM.push] <;> omega) (by have := q3'.out.2.2.2; simp [LM.push] <;> omega) (by have := q3'.out.2.2.2; simp [LM.push] <;> omega)).mono ?_
  rintro e w3 ⟨rfl, hcp3⟩
  have Hcp3 := Lib.hid hcp3
  clear hcp3
  go_wp2_with fail
  refine (connect_any base b (.slice (some ⟨g', 0, none⟩) (M.l.length + 1) cap') ((M.push (M.mid x)).connect x M.l.length) M.l.length y w3 Hcp3.out.1 (by have := q3'.out.2.2.2; rw [connect_len]; simp [LM.push] <;> omega) (by have := q3'.out.2.2.2; rw [connect_len]; simp [LM.push] <;> omega) (by have := q3'.out.2.2.2; rw [connect_len]; simp [LM.push] <;> omega)).mono ?_
  rintro e w4 ⟨rfl, hcp4⟩
  have c3 := hcp4.1.c3
  have f3 := hcp4.1.fz 3
  have hnn : (((M.push (M.mid x)).connect x M.l.length).connect M.l.length y).n = M.n := by rw [connect_n, connect_n]; exact rfl
  rw [hnn] at c3
  have hn0 := (hk.out.2.2).n0
  have hn1 := (hk.out.2.2).n1
  have hmn : M.n = M.n := rfl
  rw [hmn] at hn0 hn1
  have hn2 : M.n ≤ M.l.length := by have e := q3'.out.2.2.2; omega
  have R : ipost base b v (M.ins x) (M.l.length, 0) w (.returned (.tuple #[.int .i64 M.l.length, .int .i64 0])) (w4.setCell ⟨b, 3, none⟩ (.int .i64 (M.n + 1))) := by
    refine ⟨(.slice (some ⟨g', 0, none⟩) (M.l.length + 1) cap'), rfl, ?_, ?_, ?_⟩
    · have q := hcp4.1.set3 (M.n + 1)
      have e : M.ins x = { (((M.push (M.mid x)).connect x M.l.length).connect M.l.length y) with n := M.n + 1 } := by
        unfold LM.ins; rw [Hy.out]
      rw [e]
      exact q
    · have sub : ∀ k, k < w.heap.size → own b (.slice (some ⟨g', 0, none⟩) (M.l.length + 1) cap') k → own b v k := fun k hk hq => by
        rcases q3'.out.2.2.1 k hq with h | h
        · exact h
        · omega
      have U : Upd (own b v) w (w4.setCell ⟨b, 3, none⟩ (.int .i64 (M.n + 1))) :=
        q3'.out.2.1.trans' ((Hcp3.out.2.trans hcp4.2).setCell (.inl (.inl rfl)) _) sub
      exact U
    · intro k hk
      rcases q3'.out.2.2.1 k hk with h | h
      · exact .inl h
      · right; omega
  have HR := Lib.hid R
  clear R hnn hcp4 hmn Hy q3' Hcp3 hGLH hk
  have hb1 : M.n + 1 ≤ 3000 := by omega
  go_wp2_with fail
  go_ret2
  exact HR.out

set_option maxRecDepth 100000 in
set_option maxHeartbeats 1000000 in
theorem insert_hs (base b : Nat) (v : Value) (M : LM) (x : Int) (ord : List Nat) (w : World) (h : LRep base w b v M) (hw : WF M) (hx : M.has x = true) (hl : M.l.length < 2000)
    (hch : Chain M M.first ord) (hn : M.n = ord.length) (ho : ord.length ≤ 2000) (hgap : M.gapHigh x - M.gapLow x < 2) (hw1 : WF (M.spread ord)) (hsl : (M.spread ord).l.length = M.l.length) (hsn : (M.spread ord).n = M.n) (hsum : 0 ≤ (M.spread ord).gapLow x + (M.spread ord).gapHigh x) (hbase : base ≤ w.heap.size) :
    Calls Try.prog 16 #[.pointer (some ⟨b, 0, none⟩), .int .i64 x] w (ipost base b v ((M.spread ord).ins x) (M.l.length, 0) w) := by
  have hl2 := hw.len
  obtain ⟨i0, hi, hz0, hz1, hz2⟩ := info_parts info61
  have C := contains_any base b v M x w h hw
  rw [hx] at C
  have HC := Lib.hid C
  have hxr := has_in hx
  have t1 : (x != -1) = true := by simp; omega
  clear C
  have hxlt : x < M.l.length := by omega
  have G := gap_any base b v M x w h hw (by omega)
  have HG := Lib.hid G
  have gl := gapLow_bd hw x hxlt
  have gh := gapHigh_bd hw x hxlt
  have hm := hw.m1
  have S := spread_any base b v M ord w h hch hn ho (by omega) hw.m0 (by omega)
  have HS := Lib.hid S
  obtain ⟨M1, hM1⟩ : ∃ M1, M1 = M.spread ord := ⟨_, rfl⟩
  rw [← hM1] at hw1 hsl hsn hsum HS ⊢
  have gl1 := gapLow_bd hw1 x (by omega)
  have gh1 := gapHigh_bd hw1 x (by omega)
  obtain ⟨a, cap, hv⟩ := h.shape
  have c0 := h.c0
  rw [hv] at c0
  have hlt := h.lt
  have hk : Hid (v = .slice a M.l.length cap ∧ LRep base w b v M ∧ WF M1 ∧ M1.l.length = M.l.length ∧ M1.n = M.n) := ⟨hv, h, hw1, hsl, hsn⟩
  generalize hGL : M.gapLow x = GL at *
  generalize hGH : M.gapHigh x = GH at *
  have hGLH : Hid (M.gapLow x = GL ∧ M.gapHigh x = GH) := ⟨hGL, hGH⟩
  clear hGL hGH S hw h hch hn hM1 hv hw1 hsl hsn
  clear G hx
  go_enter Try.func16, Try.ntmps16
  go_wp2_with fail
  refine HC.out.mono ?_
  rintro e w' ⟨rfl, rfl⟩
  go_wp2_with fail
  refine HG.out.mono ?_
  rintro e w' ⟨rfl, rfl⟩
  go_wp2_with fail
  refine HS.out.mono ?_
  rintro e w1 ⟨rfl, h1, u1⟩
  obtain ⟨hv, h, hw1, hsl, hsn⟩ := hk.out
  have hbase1 : base ≤ w1.heap.size := by have := u1.size; omega
  have hU1 := Lib.hid u1
  have hR1 := Lib.hid h1
  have hszW : w.heap.size ≤ w1.heap.size := u1.size
  clear u1 h1 h hv hsl hsn hw1 c0
  go_wp2_with fail
  refine (gap_any base b v M1 x w1 hR1.out hk.out.2.2.1 (by have := hk.out.2.2.2.1; omega)).mono ?_
  rintro e w' ⟨rfl, rfl⟩
  generalize hGL1 : M1.gapLow x = GL1 at *
  generalize hGH1 : M1.gapHigh x = GH1 at *
  have hGLH1 : Hid (M1.gapLow x = GL1 ∧ M1.gapHigh x = GH1) := ⟨hGL1, hGH1⟩
  clear hGL1 hGH1
  have c0 : w1.cell? ⟨b, 0, none⟩ = some (.slice a M.l.length cap) := by rw [hR1.out.c0, hk.out.1]
  go_wp2_with fail
  refine (after_any base b v M1 x w1 hR1.out (by have := hk.out.2.2.2.1; omega) (by have := hk.out.2.2.2.1; omega)).mono ?_
  rintro e w' ⟨rfl, rfl⟩
  have hA := (hk.out.2.2.1).after (x := x) (by have : (M1).l.length = M.l.length := hk.out.2.2.2.1; omega)
  generalize hy : M1.after x = y at *
  have Hy := Lib.hid hy
  clear hy
  have hown : w1.ownsRow base 61 4 (.slice a M.l.length cap) M.l.length (elCells M1.l) := by
    have q := (hR1.out).2.2.1
    rw [hk.out.1] at q
    have e2 : M1.l.length = M.l.length := hk.out.2.2.2.1
    rw [e2] at q
    exact q
  have Hown := Lib.hid hown
  clear hown
  have hsum2 : 0 ≤ GL1 + GH1 := by omega
  go_wp2_with (at_builtin; refine wpList_append_at _ rfl (.tmp 59) (.tmp 65) 57 rfl base 61 i0 (.agg #[.int .i64 0, .int .i64 0, .int .i64 0, .bool false]) 4 32 Try.underlying57 hi hz0 hz1 hz2 rfl (by decide) _ _ _ rfl (Hown.out.alloc _) ⟨w1.heap.size, 0, none⟩ 1 1 [.int .i64 ((GL1 + GH1) / 2), .int .i64 0, .int .i64 0, .bool true] rfl rfl ?c1 ?c2 ?c3 ?c4 ?c5 ?_)
  case c1 =>
    intro j u hj
    match j, hj with
    | 0, hj => simp at hj; subst hj; simp [Addr.add]
    | 1, hj => simp at hj; subst hj; simp [Addr.add]
    | 2, hj => simp at hj; subst hj; simp [Addr.add]
    | 3, hj => simp at hj; subst hj; simp [Addr.add]
  case c2 => intro u hu; simp at hu; rcases hu with rfl | rfl | rfl | rfl <;> rfl
  case c3 => unfold maxLen; omega
  case c4 => omega
  case c5 => simp; omega
  intro v' w2 hown' hgrow hblk
  obtain ⟨g', cap', hv'⟩ := own_some hown' (by omega)
  subst hv'
  have hval : M1.mid x = (GL1 + GH1) / 2 := by unfold LM.mid; rw [hGLH1.out.1, hGLH1.out.2]
  have hlen1 : M1.l.length = M.l.length := hk.out.2.2.2.1
  obtain ⟨q1, q2, q3, q4, q5⟩ := (hR1.out).app (o := (.cells #[.int .i64 ((GL1 + GH1) / 2), .int .i64 0, .int .i64 0, .bool true] 61)) (lb := (GL1 + GH1) / 2) (w1 := w2) (v' := .slice (some ⟨g', 0, none⟩) (M.l.length + 1) cap') (by rw [hlen1]; exact hown') (by rw [hk.out.1]; exact hgrow) (by rw [hk.out.1]; exact hblk)
  rw [hk.out.1] at q1
  have q3' : Hid (LRep base (w2.setCell ⟨b, 0, none⟩ (.slice (some ⟨g', 0, none⟩) (M.l.length + 1) cap')) b (.slice (some ⟨g', 0, none⟩) (M.l.length + 1) cap') (M1.push (M1.mid x)) ∧ Upd (own b v) w1 (w2.setCell ⟨b, 0, none⟩ (.slice (some ⟨g', 0, none⟩) (M.l.length + 1) cap')) ∧ (∀ k, own b (.slice (some ⟨g', 0, none⟩) (M.l.length + 1) cap') k → own b v k ∨ w1.heap.size ≤ k) ∧ M1.l.length = M.l.length) := ⟨by rw [hval]; exact q3, q4, q5, hlen1⟩
  clear q3 q4 q5 hval hlen1 hown' hgrow hblk
  go_wp2_with fail
  refine (connect_any base b (.slice (some ⟨g', 0, none⟩) (M.l.length + 1) cap') (M1.push (M1.mid x)) x M.l.length (w2.setCell ⟨b, 0, none⟩ (.slice (some ⟨g', 0, none⟩) (M.l.length + 1) cap')) q3'.out.1 (by have := q3'.out.2.2.2; simp [LM.push] <;> omega) (by have := q3'.out.2.2.2; simp [LM.push] <;> omega) (by have := q3'.out.2.2.2; simp [LM.push] <;> omega)).mono ?_
  rintro e w3 ⟨rfl, hcp3⟩
  have Hcp3 := Lib.hid hcp3
  clear hcp3
  go_wp2_with fail
  refine (connect_any base b (.slice (some ⟨g', 0, none⟩) (M.l.length + 1) cap') ((M1.push (M1.mid x)).connect x M.l.length) M.l.length y w3 Hcp3.out.1 (by have := q3'.out.2.2.2; rw [connect_len]; simp [LM.push] <;> omega) (by have := q3'.out.2.2.2; rw [connect_len]; simp [LM.push] <;> omega) (by have := q3'.out.2.2.2; rw [connect_len]; simp [LM.push] <;> omega)).mono ?_
  rintro e w4 ⟨rfl, hcp4⟩
  have c3 := hcp4.1.c3
  have f3 := hcp4.1.fz 3
  have hnn : (((M1.push (M1.mid x)).connect x M.l.length).connect M.l.length y).n = M.n := by rw [connect_n, connect_n]; exact hk.out.2.2.2.2
  rw [hnn] at c3
  have hn0 := (hk.out.2.2.1).n0
  have hn1 := (hk.out.2.2.1).n1
  have hmn : M1.n = M.n := hk.out.2.2.2.2
  rw [hmn] at hn0 hn1
  have hn2 : M.n ≤ M.l.length := by have e := q3'.out.2.2.2; omega
  have R : ipost base b v (M1.ins x) (M.l.length, 0) w (.returned (.tuple #[.int .i64 M.l.length, .int .i64 0])) (w4.setCell ⟨b, 3, none⟩ (.int .i64 (M.n + 1))) := by
    refine ⟨(.slice (some ⟨g', 0, none⟩) (M.l.length + 1) cap'), rfl, ?_, ?_, ?_⟩
    · have q := hcp4.1.set3 (M.n + 1)
      have e : M1.ins x = { (((M1.push (M1.mid x)).connect x M.l.length).connect M.l.length y) with n := M.n + 1 } := by
        unfold LM.ins; rw [q3'.out.2.2.2, Hy.out, hmn]
      rw [e]
      exact q
    · have sub : ∀ k, k < w1.heap.size → own b (.slice (some ⟨g', 0, none⟩) (M.l.length + 1) cap') k → own b v k := fun k hk hq => by
        rcases q3'.out.2.2.1 k hq with h | h
        · exact h
        · omega
      have U : Upd (own b v) w1 (w4.setCell ⟨b, 3, none⟩ (.int .i64 (M.n + 1))) :=
        q3'.out.2.1.trans' ((Hcp3.out.2.trans hcp4.2).setCell (.inl (.inl rfl)) _) sub
      exact hU1.out.trans U
    · intro k hk
      rcases q3'.out.2.2.1 k hk with h | h
      · exact .inl h
      · right; omega
  have HR := Lib.hid R
  clear R hnn hcp4 hmn Hy q3' Hcp3 hGLH hk
  have hb1 : M.n + 1 ≤ 3000 := by omega
  go_wp2_with fail
  go_ret2
  exact HR.out

end Go.Proofs.Ytnlminaanccejaa
