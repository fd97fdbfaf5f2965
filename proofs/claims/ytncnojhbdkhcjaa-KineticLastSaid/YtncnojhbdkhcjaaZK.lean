/- The texts K47 KP7 K48 K49 K50 K51 K52 K53 K54, one behind the other. -/
import Derived.Test.YtncnojhbdkhcjaaZI
import Derived.Test.YtncnojhbdkhcjaaZJ
import Derived.BigQuiet
import Derived.Test.YtncnojhbdkhcjaaZH
/- The last in the order. -/
namespace Go.Proofs.Ytncnojhbdkhcjaa
open Go.RowKit Go.Hw Go
set_option linter.unusedVariables false
set_option linter.unusedSimpArgs false

/-- the winner at a time -/
def wnF (l : List Mo) (n d : Int) : Nat := (ordF l n d).getD (l.length - 1) 0
theorem wnF_lt {l : List Mo} (n d : Int) (h : 0 < l.length) : wnF l n d < l.length := ordF_at_lt l n d _ (by omega)
set_option maxRecDepth 100000 in
set_option maxHeartbeats 2000000 in
theorem last_x (l : List Mo) (n d : Int) (S : Nat → Prop) (v : Value) (w : World) (hl : 0 < l.length) (hl2 : l.length ≤ 100000) (hm : mB l = true) (hv : vfB n d = true) (hR : MoR S w v l) (hS : ∀ k, S k → k < w.heap.size) :
    Calls Try.prog 64 #[v, .agg #[.int .i64 n, .int .i64 d]] w fun e w' => e = .returned (.int .i64 (wnF l n d : Int)) ∧ Ext w w' := by
  have HCO := Lib.hid (fun W (hW : Ext w W) => order_x l n d S v W hl2 hm hv (hR.ext hW) (fun k hk => Nat.lt_of_lt_of_le (hS k hk) hW.size))
  obtain ⟨a, cap, rfl⟩ := hR.shape
  have HLL := Lib.hid (And.intro hl hl2)
  clear hR hS hm hv
  have HZ := Lib.hid ((Upd.refl (fun _ => False) w).alloc (.cells #[.int .i64 n, .int .i64 d] 25))
  have hb0 := alloc0 w (.cells #[.int .i64 n, .int .i64 d] 25)
  have HL : Hid ((w.alloc (.cells #[.int .i64 n, .int .i64 d] 25)).heap.size = w.heap.size + 1) := Lib.hid (by simp)
  have HX : Hid (∀ W, Ext (w.alloc (.cells #[.int .i64 n, .int .i64 d] 25)) W → W.cell? ⟨w.heap.size, 0, none⟩ = some (.int .i64 n) ∧ W.cell? ⟨w.heap.size, 1, none⟩ = some (.int .i64 d)) := Lib.hid (fun W hW => ⟨cellRow (hW.heap hb0 (fun h => h)) 0 _ rfl, cellRow (hW.heap hb0 (fun h => h)) 1 _ rfl⟩)
  clear hb0
  obtain ⟨k00, k01⟩ := HX.out _ (Upd.refl _ _)
  go_enter Try.func64, Try.ntmps64
  go_wp2_with fail
  refine (HCO.out _ HZ.out).mono ?_
  rintro e w4 ⟨r, rfl, hO, hw4⟩
  obtain ⟨g, c4, hv4⟩ := own_some hO HLL.out.1
  subst hv4
  have H4 := Lib.hid (HZ.out.ext hw4)
  have c0 := own_cell hO (l.length - 1) (by have := HLL.out.1; omega)
  rw [iCells_at _ _ (by rw [ordF_len]; omega)] at c0
  have e1 : ((l.length - 1 : Nat) : Int) = (l.length : Int) - 1 := by omega
  have e2 : (0 : Int) ≤ (l.length : Int) - 1 := by omega
  have e3 : ((l.length : Int) - 1).toNat = l.length - 1 := by omega
  have e4 : IntKind.i64.wrap ((l.length : Int) - 1) = (l.length : Int) - 1 := IntWalk.i64_in _ (by omega)
  have hq : (ordF l n d).getD (l.length - 1) 0 = wnF l n d := rfl
  rw [hq] at c0
  clear hO hw4 hq k00 k01
  go_wp2_with fail
  go_ret
  exact ⟨rfl, H4.out⟩
set_option maxRecDepth 100000 in
set_option maxHeartbeats 2000000 in
theorem rwinner_x (l : List Mo) (n d : Int) (S : Nat → Prop) (v : Value) (w : World) (hl : 0 < l.length) (hl2 : l.length ≤ 100000) (hm : mB l = true) (hv : vfB n d = true) (hR : MoR S w v l) (hS : ∀ k, S k → k < w.heap.size) :
    Calls Try.prog 40 #[v, .agg #[.int .i64 n, .int .i64 d]] w fun e w' => e = .returned (.int .i64 (wnF l n d : Int)) ∧ Ext w w' := by
  have HCO := Lib.hid (fun W (hW : Ext w W) => rorder_x l n d S v W hl2 hm hv (hR.ext hW) (fun k hk => Nat.lt_of_lt_of_le (hS k hk) hW.size))
  obtain ⟨a, cap, rfl⟩ := hR.shape
  have HLL := Lib.hid (And.intro hl hl2)
  clear hR hS hm hv
  have HZ := Lib.hid ((Upd.refl (fun _ => False) w).alloc (.cells #[.int .i64 n, .int .i64 d] 25))
  have hb0 := alloc0 w (.cells #[.int .i64 n, .int .i64 d] 25)
  have HL : Hid ((w.alloc (.cells #[.int .i64 n, .int .i64 d] 25)).heap.size = w.heap.size + 1) := Lib.hid (by simp)
  have HX : Hid (∀ W, Ext (w.alloc (.cells #[.int .i64 n, .int .i64 d] 25)) W → W.cell? ⟨w.heap.size, 0, none⟩ = some (.int .i64 n) ∧ W.cell? ⟨w.heap.size, 1, none⟩ = some (.int .i64 d)) := Lib.hid (fun W hW => ⟨cellRow (hW.heap hb0 (fun h => h)) 0 _ rfl, cellRow (hW.heap hb0 (fun h => h)) 1 _ rfl⟩)
  clear hb0
  obtain ⟨k00, k01⟩ := HX.out _ (Upd.refl _ _)
  go_enter Try.func40, Try.ntmps40
  go_wp2_with fail
  refine (HCO.out _ HZ.out).mono ?_
  rintro e w4 ⟨r, rfl, hO, hw4⟩
  obtain ⟨g, c4, hv4⟩ := own_some hO HLL.out.1
  subst hv4
  have H4 := Lib.hid (HZ.out.ext hw4)
  have c0 := own_cell hO (l.length - 1) (by have := HLL.out.1; omega)
  rw [iCells_at _ _ (by rw [ordF_len]; omega)] at c0
  have e1 : ((l.length - 1 : Nat) : Int) = (l.length : Int) - 1 := by omega
  have e2 : (0 : Int) ≤ (l.length : Int) - 1 := by omega
  have e3 : ((l.length : Int) - 1).toNat = l.length - 1 := by omega
  have e4 : IntKind.i64.wrap ((l.length : Int) - 1) = (l.length : Int) - 1 := IntWalk.i64_in _ (by omega)
  have hq : (ordF l n d).getD (l.length - 1) 0 = wnF l n d := rfl
  rw [hq] at c0
  clear hO hw4 hq k00 k01
  go_wp2_with fail
  go_ret
  exact ⟨rfl, H4.out⟩

end Go.Proofs.Ytncnojhbdkhcjaa

/- Events. -/
namespace Go.Proofs.Ytncnojhbdkhcjaa
open Go.RowKit Go.Hw Go
set_option linter.unusedVariables false
set_option linter.unusedSimpArgs false

theorem low_uniq {a b c d : Int} (h1 : vfB a b = true) (h2 : vfB c d = true) (h : a * d = c * b) : a = c ∧ b = d := by
  obtain ⟨⟨b1, _⟩, g1⟩ := (vfB_iff a b).1 h1
  obtain ⟨⟨d1, _⟩, g2⟩ := (vfB_iff c d).1 h2
  have hn : a.natAbs * d.natAbs = c.natAbs * b.natAbs := by rw [← Int.natAbs_mul, ← Int.natAbs_mul, h]
  have k1 : b.natAbs ∣ d.natAbs := by
    have hc : Nat.Coprime b.natAbs a.natAbs := by rw [Nat.coprime_comm]; exact g1
    exact hc.dvd_of_dvd_mul_left (by rw [hn]; exact Nat.dvd_mul_left _ _)
  have k2 : d.natAbs ∣ b.natAbs := by
    have hc : Nat.Coprime d.natAbs c.natAbs := by rw [Nat.coprime_comm]; exact g2
    exact hc.dvd_of_dvd_mul_left (by rw [← hn]; exact Nat.dvd_mul_left _ _)
  have hbd : b = d := by have := Nat.dvd_antisymm k1 k2; omega
  subst hbd
  exact ⟨Int.eq_of_mul_eq_mul_right (by omega) h, rfl⟩

theorem aN_neg (x y : Int) : aN (-x) (-y) = aN x y := by
  unfold aN gg
  rw [Int.natAbs_neg, Int.natAbs_neg]
theorem aD_neg (x y : Int) : aD (-x) (-y) = aD x y := by
  unfold aD gg
  rw [Int.natAbs_neg, Int.natAbs_neg]
theorem qN_neg (x y : Int) (hy : y ≠ 0) : qN (-x) (-y) = qN x y := by
  unfold qN
  rw [aN_neg]
  by_cases hx : x = 0
  · have : aN x y = 0 := by unfold aN; rw [hx]; simp
    rw [this]
    simp
  · have : negB (-x) (-y) = negB x y := by
      unfold negB
      rcases Int.lt_or_gt_of_ne hx with h | h <;> rcases Int.lt_or_gt_of_ne hy with h2 | h2
      · rw [decide_eq_false (by omega : ¬ (-x < 0)), decide_eq_false (by omega : ¬ (-y < 0)), decide_eq_true h, decide_eq_true h2]; rfl
      · rw [decide_eq_false (by omega : ¬ (-x < 0)), decide_eq_true (by omega : (-y < 0)), decide_eq_true h, decide_eq_false (by omega : ¬ (y < 0))]; rfl
      · rw [decide_eq_true (by omega : (-x < 0)), decide_eq_false (by omega : ¬ (-y < 0)), decide_eq_false (by omega : ¬ (x < 0)), decide_eq_true h2]; rfl
      · rw [decide_eq_true (by omega : (-x < 0)), decide_eq_true (by omega : (-y < 0)), decide_eq_false (by omega : ¬ (x < 0)), decide_eq_false (by omega : ¬ (y < 0))]; rfl
    rw [this]
theorem mt_comm (a b : Mo) (h : a.2 ≠ b.2) : mtN a b = mtN b a ∧ mtD a b = mtD b a := by
  unfold mtN mtD
  rw [show a.1 - b.1 = -(b.1 - a.1) by omega, show b.2 - a.2 = -(a.2 - b.2) by omega, qN_neg _ _ (by omega), aD_neg]
  exact ⟨rfl, rfl⟩

/-- the point i passes the winner w after n/d -/
def cand (l : List Mo) (n d : Int) (w i : Nat) : Bool := decide ((mg l w).2 < (mg l i).2) && meetB (mg l w) (mg l i) n d
def mt (l : List Mo) (w i : Nat) : Int × Int := (mtN (mg l w) (mg l i), mtD (mg l w) (mg l i))
def ovStep (l : List Mo) (n d : Int) (w : Nat) (acc : Option (Int × Int)) (i : Nat) : Option (Int × Int) :=
  if cand l n d w i then some (match acc with | none => mt l w i | some b => if (mt l w i).1 * b.2 < b.1 * (mt l w i).2 then mt l w i else b) else acc
def ovP (l : List Mo) (n d : Int) (w k : Nat) : Option (Int × Int) := (List.range k).foldl (ovStep l n d w) none
def ovF (l : List Mo) (n d : Int) (w : Nat) : Option (Int × Int) := ovP l n d w l.length
theorem ovP_succ (l : List Mo) (n d : Int) (w k : Nat) : ovP l n d w (k + 1) = ovStep l n d w (ovP l n d w k) k := by
  unfold ovP
  rw [List.range_succ, List.foldl_append]
  rfl
theorem cand_ok {l : List Mo} {n d : Int} {w i : Nat} (hm : mB l = true) (h : cand l n d w i = true) : (mg l w).2 < (mg l i).2 ∧ meetB (mg l w) (mg l i) n d = true ∧ vfB (mt l w i).1 (mt l w i).2 = true ∧ 0 < (mt l w i).2 := by
  unfold cand at h
  rw [Bool.and_eq_true, decide_eq_true_eq] at h
  have h2 := (mt_mk (mB_at hm w) (mB_at hm i) (show (mg l w).2 ≠ (mg l i).2 by omega)).2.2.2
  exact ⟨h.1, h.2, h2, by obtain ⟨h1, h3, h4⟩ := vf_bd h2; show 0 < mtD _ _; omega⟩
theorem ovP_spec {l : List Mo} (n d : Int) (w : Nat) (hm : mB l = true) : ∀ k, (ovP l n d w k = none → ∀ i, i < k → cand l n d w i = false) ∧ ∀ x, ovP l n d w k = some x → (∃ i, i < k ∧ cand l n d w i = true ∧ x = mt l w i) ∧ ∀ i, i < k → cand l n d w i = true → x.1 * (mt l w i).2 ≤ (mt l w i).1 * x.2
  | 0 => ⟨fun _ i hi => by omega, fun x hx => by cases hx⟩
  | k + 1 => by
    obtain ⟨h1, h2⟩ := ovP_spec n d w hm k
    rw [ovP_succ]
    generalize ovP l n d w k = acc at *
    unfold ovStep
    cases hc : cand l n d w k
    · rw [if_neg (by decide)]
      refine ⟨fun h i hi => ?_, fun x hx => ?_⟩
      · rcases Nat.lt_succ_iff_lt_or_eq.1 hi with h3 | h3
        · exact h1 h i h3
        · rw [h3]; exact hc
      · obtain ⟨⟨i, hi, hci, hxi⟩, h3⟩ := h2 x hx
        refine ⟨⟨i, by omega, hci, hxi⟩, fun j hj hcj => ?_⟩
        rcases Nat.lt_succ_iff_lt_or_eq.1 hj with h4 | h4
        · exact h3 j h4 hcj
        · rw [h4, hc] at hcj; cases hcj
    · rw [if_pos rfl]
      refine ⟨fun h => (by cases h), fun x hx => ?_⟩
      injection hx with hx
      obtain ⟨_, _, hvk, hpk⟩ := cand_ok hm hc
      cases acc with
      | none =>
        subst hx
        refine ⟨⟨k, by omega, hc, rfl⟩, fun j hj hcj => ?_⟩
        rcases Nat.lt_succ_iff_lt_or_eq.1 hj with h4 | h4
        · rw [h1 rfl j h4] at hcj; cases hcj
        · rw [h4]; exact Int.le_refl _
      | some b =>
        obtain ⟨⟨i, hi, hci, hbi⟩, h3⟩ := h2 b rfl
        have hbp : 0 < b.2 := by rw [hbi]; exact (cand_ok hm hci).2.2.2
        simp only at hx
        split at hx
        · rename_i hlt
          subst hx
          refine ⟨⟨k, by omega, hc, rfl⟩, fun j hj hcj => ?_⟩
          rcases Nat.lt_succ_iff_lt_or_eq.1 hj with h4 | h4
          · exact (fr_lt_trans hpk hbp (cand_ok hm hcj).2.2.2 (by omega) (h3 j h4 hcj)).1
          · rw [h4]; exact Int.le_refl _
        · rename_i hlt
          subst hx
          refine ⟨⟨i, by omega, hci, hbi⟩, fun j hj hcj => ?_⟩
          rcases Nat.lt_succ_iff_lt_or_eq.1 hj with h4 | h4
          · exact h3 j h4 hcj
          · rw [h4]; omega

theorem last_less {l : List Mo} (n d : Int) {i : Nat} (hi : i < l.length) (hne : i ≠ wnF l n d) : lessK l n d i (wnF l n d) = true := by
  obtain ⟨j, hj, rfl⟩ := ordF_idx l n d hi
  unfold wnF at hne ⊢
  refine ordF_lt l n d ?_ (by omega)
  rcases Nat.lt_or_ge j (l.length - 1) with h | h
  · exact h
  · exact absurd (by rw [show j = l.length - 1 by omega]) hne
/-- who is last at two times, and is not the same: the later one has passed the earlier one -/
theorem win_sw {l : List Mo} {n d m e : Int} (hl : 0 < l.length) (hne : wnF l m e ≠ wnF l n d) : isSw l n d m e (wnF l m e) (wnF l n d) = true :=
  (isSw_iff _ _ _ _ _ _ _).2 ⟨last_less n d (wnF_lt m e hl) hne, lessK_asymm (last_less m e (wnF_lt n d hl) (fun h => hne h.symm))⟩
theorem meetB_comm {a b : Mo} {n d : Int} (h : meetB a b n d = true) (hne : a.2 ≠ b.2) : meetB b a n d = true := by
  have h1 := meetB_lt h
  obtain ⟨e1, e2⟩ := mt_comm a b hne
  rw [e1, e2] at h1
  unfold meetB
  rw [Bool.and_eq_true, decide_eq_true_eq]
  exact ⟨by simpa using fun h => hne h.symm, h1⟩
theorem ev_none {l : List Mo} {n d m e : Int} (hl : 0 < l.length) (hd : 1 ≤ d) (he : 1 ≤ e) (hn : 0 ≤ n) (hle : n * e ≤ m * d)
    (h : ∀ i, i < l.length → cand l n d (wnF l n d) i = true → m * (mt l (wnF l n d) i).2 < (mt l (wnF l n d) i).1 * e) : wnF l m e = wnF l n d := by
  by_cases hne : wnF l m e = wnF l n d
  · exact hne
  · exfalso
    have hs := win_sw (n := n) (d := d) (m := m) (e := e) hl hne
    have hf := sw_meets hd he hn hle hs
    obtain ⟨t1, t2⟩ := sw_time hd he hn hle hs
    have hne2 : (mg l (wnF l m e)).2 ≠ (mg l (wnF l n d)).2 := by omega
    obtain ⟨e1, e2⟩ := mt_comm _ _ hne2
    have hc : cand l n d (wnF l n d) (wnF l m e) = true := by
      unfold cand
      rw [Bool.and_eq_true, decide_eq_true_eq]
      exact ⟨hf, meetB_comm t1 hne2⟩
    have := h _ (wnF_lt m e hl) hc
    apply t2
    rw [e1, e2]
    exact this
theorem ev_some {l : List Mo} {n d : Int} {i : Nat} (hm : mB l = true) (hl : 0 < l.length) (hd : 1 ≤ d) (hn : 0 ≤ n) (hi : i < l.length) (hc : cand l n d (wnF l n d) i = true) :
    (mg l (wnF l n d)).2 < (mg l (wnF l (mt l (wnF l n d) i).1 (mt l (wnF l n d) i).2)).2 := by
  obtain ⟨h1, h2, _, h4⟩ := cand_ok hm hc
  obtain ⟨e1, e2⟩ := mt_comm (mg l (wnF l n d)) (mg l i) (by omega)
  have hlt := meetB_lt h2
  generalize hw : wnF l n d = w at *
  have hx : lessK l (mt l w i).1 (mt l w i).2 i w = false := by
    rw [Bool.eq_false_iff]
    intro hc2
    have h5 := (lessK_fast h1 _ _).1 hc2
    have h6 := (mt_lt h1 (mt l w i).1 (mt l w i).2).2 h5
    rw [← e1, ← e2] at h6
    unfold mt at h6
    simp only at h6
    omega
  have hne : wnF l (mt l w i).1 (mt l w i).2 ≠ wnF l n d := by
    intro h
    rw [hw] at h
    have := last_less (mt l w i).1 (mt l w i).2 hi (by rw [h]; intro h7; subst h7; omega)
    rw [h, hx] at this
    cases this
  have hs := win_sw (n := n) (d := d) hl hne
  rw [hw] at hs
  exact sw_meets hd (by omega) hn (by unfold mt; simp only; omega) hs

/-- how many points are faster -/
def cF (l : List Mo) (w : Nat) : Nat := (List.range l.length).countP fun i => decide ((mg l w).2 < (mg l i).2)
theorem countP_lt {α : Type} {p q : α → Bool} : ∀ {L : List α} {a : α}, (∀ x, p x = true → q x = true) → a ∈ L → q a = true → p a = false → L.countP p < L.countP q
  | [], a, _, h, _, _ => by cases h
  | x :: L, a, h, ha, h1, h2 => by
    have hle : L.countP p ≤ L.countP q := List.countP_mono_left (fun x _ => h x)
    rw [List.countP_cons, List.countP_cons]
    rcases List.mem_cons.1 ha with e | ha
    · subst e
      rw [h1, h2]
      simp
      omega
    · have ih := countP_lt h ha h1 h2
      cases hp : p x
      · simp
        omega
      · rw [h x hp]
        simp
        omega
theorem cF_lt {l : List Mo} {w w' : Nat} (hw : w' < l.length) (h : (mg l w).2 < (mg l w').2) : cF l w' < cF l w := by
  unfold cF
  refine countP_lt (a := w') (fun x hx => ?_) (List.mem_range.2 hw) (decide_eq_true h) (decide_eq_false (by omega))
  rw [decide_eq_true_eq] at hx ⊢
  omega
theorem cF_le {l : List Mo} {w : Nat} (hw : w < l.length) : cF l w < l.length := by
  have h := countP_lt (p := fun i => decide ((mg l w).2 < (mg l i).2)) (q := fun _ => true) (L := List.range l.length) (a := w) (fun _ _ => rfl) (List.mem_range.2 hw) rfl (decide_eq_false (by omega))
  unfold cF
  rw [List.countP_true, List.length_range] at h
  exact h
/-- events up to m/e, seen from n/d with the winner w: how many -/
def evG (l : List Mo) (m e : Int) : Nat → Int → Int → Nat → Nat
  | 0, _, _, _ => 0
  | f + 1, n, d, w => match ovF l n d w with
    | none => 0
    | some x => if m * x.2 < x.1 * e then 0 else evG l m e f x.1 x.2 (wnF l x.1 x.2) + 1

theorem ov_zero {l : List Mo} {n d : Int} {w : Nat} (hm : mB l = true) (h : cF l w = 0) : ovF l n d w = none := by
  cases hc : ovF l n d w with
  | none => rfl
  | some x =>
    exfalso
    obtain ⟨⟨i, hi, hci, _⟩, _⟩ := (ovP_spec n d w hm l.length).2 x hc
    unfold cF at h
    rw [List.countP_eq_zero] at h
    exact h i (List.mem_range.2 hi) (decide_eq_true (cand_ok hm hci).1)
/-- what an event hands on -/
theorem ov_next {l : List Mo} {n d : Int} {x : Int × Int} (hm : mB l = true) (hl : 0 < l.length) (hd : 1 ≤ d) (hn : 0 ≤ n) (h : ovF l n d (wnF l n d) = some x) :
    vfB x.1 x.2 = true ∧ 1 ≤ x.2 ∧ 0 ≤ x.1 ∧ n * x.2 < x.1 * d ∧ cF l (wnF l x.1 x.2) < cF l (wnF l n d) := by
  obtain ⟨⟨i, hi, hci, rfl⟩, _⟩ := (ovP_spec n d (wnF l n d) hm l.length).2 x h
  obtain ⟨h1, h2, h3, h4⟩ := cand_ok hm hci
  have hs := ev_some hm hl hd hn hi hci
  have hlt : n * (mt l (wnF l n d) i).2 < (mt l (wnF l n d) i).1 * d := meetB_lt h2
  refine ⟨h3, by omega, ?_, hlt, cF_lt (wnF_lt _ _ hl) hs⟩
  have h5 : 0 ≤ n * (mt l (wnF l n d) i).2 := Int.mul_nonneg hn (by omega)
  have h6 : 0 < (mt l (wnF l n d) i).1 * d := by omega
  rcases Int.lt_or_le (mt l (wnF l n d) i).1 0 with h7 | h7
  · have := Int.mul_neg_of_neg_of_pos h7 (show 0 < d by omega)
    omega
  · exact h7
theorem evG_fuel {l : List Mo} {m e : Int} (hm : mB l = true) (hl : 0 < l.length) : ∀ (f g : Nat) (n d : Int), 1 ≤ d → 0 ≤ n → cF l (wnF l n d) ≤ f → cF l (wnF l n d) ≤ g → evG l m e f n d (wnF l n d) = evG l m e g n d (wnF l n d)
  | 0, g, n, d, hd, hn, h1, h2 => by
    have h0 := ov_zero (n := n) (d := d) hm (Nat.le_zero.1 h1)
    cases g with
    | zero => rfl
    | succ g => unfold evG; rw [h0]
  | f + 1, 0, n, d, hd, hn, h1, h2 => by
    have h0 := ov_zero (n := n) (d := d) hm (Nat.le_zero.1 h2)
    unfold evG
    rw [h0]
  | f + 1, g + 1, n, d, hd, hn, h1, h2 => by
    unfold evG
    cases hc : ovF l n d (wnF l n d) with
    | none => rfl
    | some x =>
      obtain ⟨_, h3, h4, _, h5⟩ := ov_next hm hl hd hn hc
      simp only
      split
      · rfl
      · rw [evG_fuel hm hl f g x.1 x.2 h3 h4 (by omega) (by omega)]
theorem ovP_congr {l : List Mo} {n d m e : Int} {w : Nat} : ∀ k, (∀ i, i < k → cand l n d w i = cand l m e w i) → ovP l n d w k = ovP l m e w k
  | 0, _ => rfl
  | k + 1, h => by
    rw [ovP_succ, ovP_succ, ovP_congr k (fun i hi => h i (by omega))]
    unfold ovStep
    rw [h k (by omega)]
/-- the same points pass later, where nothing passed between -/
theorem ov_same {l : List Mo} {n d m e : Int} {w : Nat} (hm : mB l = true) (hd : 1 ≤ d) (he : 1 ≤ e) (hle : n * e ≤ m * d) (h : ∀ i, i < l.length → cand l n d w i = true → m * (mt l w i).2 < (mt l w i).1 * e) : ovF l m e w = ovF l n d w := by
  refine (ovP_congr _ (fun i hi => ?_)).symm
  rw [Bool.eq_iff_iff]
  constructor
  · intro hc
    have h1 := h i hi hc
    obtain ⟨h2, h3, _, _⟩ := cand_ok hm hc
    unfold cand meetB
    rw [Bool.and_eq_true, Bool.and_eq_true, decide_eq_true_eq, decide_eq_true_eq]
    exact ⟨h2, by simp; omega, h1⟩
  · intro hc
    obtain ⟨h2, h3, _, h4⟩ := cand_ok hm hc
    have h5 : m * (mt l w i).2 < (mt l w i).1 * e := meetB_lt h3
    unfold cand meetB
    rw [Bool.and_eq_true, Bool.and_eq_true, decide_eq_true_eq, decide_eq_true_eq]
    refine ⟨h2, by simp; omega, ?_⟩
    show n * (mt l w i).2 < (mt l w i).1 * d
    have h6 := (fr_lt_trans (a := n) (b := d) (c := m) (d := e) (e := (mt l w i).1) (f := (mt l w i).2) (by omega) (by omega) h4 hle (by omega))
    rcases Int.lt_or_eq_of_le h6.1 with h7 | h7
    · exact h7
    · have := (h6.2 h7).2
      omega

theorem win_mono {l : List Mo} {n d m e : Int} (hl : 0 < l.length) (hd : 1 ≤ d) (he : 1 ≤ e) (hn : 0 ≤ n) (hle : n * e ≤ m * d) : cF l (wnF l m e) ≤ cF l (wnF l n d) := by
  by_cases h : wnF l m e = wnF l n d
  · rw [h]; exact Nat.le_refl _
  · exact Nat.le_of_lt (cF_lt (wnF_lt m e hl) (sw_meets hd he hn hle (win_sw hl h)))
theorem nonneg_of {n d m e : Int} (hd : 1 ≤ d) (he : 1 ≤ e) (hn : 0 ≤ n) (hle : n * e ≤ m * d) : 0 ≤ m := by
  rcases Int.lt_or_le m 0 with h | h
  · have h1 := Int.mul_neg_of_neg_of_pos h (show 0 < d by omega)
    have h2 : 0 ≤ n * e := Int.mul_nonneg hn (by omega)
    omega
  · exact h
theorem evG_sum {l : List Mo} {m e p g : Int} (hm : mB l = true) (hl : 0 < l.length) (he : 1 ≤ e) (hg : 1 ≤ g) (h2 : m * g ≤ p * e) : ∀ (f : Nat) (n d : Int), 1 ≤ d → 0 ≤ n → cF l (wnF l n d) ≤ f → n * e ≤ m * d →
    evG l p g f n d (wnF l n d) = evG l m e f n d (wnF l n d) + evG l p g f m e (wnF l m e)
  | 0, _, _, _, _, _, _ => rfl
  | f + 1, n, d, hd, hn, hf, hle => by
    have hm0 := nonneg_of hd he hn hle
    cases hc : ovF l n d (wnF l n d) with
    | none =>
      have hnone := (ovP_spec n d (wnF l n d) hm l.length).1 hc
      have hcand : ∀ i, i < l.length → cand l n d (wnF l n d) i = true → m * (mt l (wnF l n d) i).2 < (mt l (wnF l n d) i).1 * e := fun i hi h => by rw [hnone i hi] at h; cases h
      rw [ev_none hl hd he hn hle hcand]
      have hs := ov_same hm hd he hle hcand
      unfold evG
      rw [hs, hc]
      rfl
    | some x =>
      obtain ⟨hx1, hx2, hx3, hx4, hx5⟩ := ov_next hm hl hd hn hc
      by_cases hlt : m * x.2 < x.1 * e
      · have hcand : ∀ i, i < l.length → cand l n d (wnF l n d) i = true → m * (mt l (wnF l n d) i).2 < (mt l (wnF l n d) i).1 * e := fun i hi h => by
          have h3 := ((ovP_spec n d (wnF l n d) hm l.length).2 x hc).2 i hi h
          have h4 := (cand_ok hm h).2.2.2
          have h6 := fr_lt_trans (a := m) (b := e) (c := x.1) (d := x.2) (e := (mt l (wnF l n d) i).1) (f := (mt l (wnF l n d) i).2) (by omega) (by omega) h4 (by omega) h3
          rcases Int.lt_or_eq_of_le h6.1 with h7 | h7
          · exact h7
          · have := (h6.2 h7).1
            omega
        rw [ev_none hl hd he hn hle hcand]
        have hs := ov_same hm hd he hle hcand
        unfold evG
        rw [hs, hc]
        simp only
        rw [if_pos hlt, Nat.zero_add]
      · have hxp : ¬ p * x.2 < x.1 * g := by
          have := le_tr (n := x.1) (d := x.2) (m := m) (e := e) (p := p) (g := g) hx2 he hg (by omega) h2
          omega
        have ih := evG_sum hm hl he hg h2 f x.1 x.2 hx2 hx3 (by omega) (by omega)
        have hw := win_mono (n := x.1) (d := x.2) (m := m) (e := e) hl hx2 he hx3 (by omega)
        have hfu := evG_fuel (m := p) (e := g) hm hl (f + 1) f m e he hm0 (by omega) (by omega)
        rw [hfu]
        show (match ovF l n d (wnF l n d) with | none => 0 | some x => if p * x.2 < x.1 * g then 0 else evG l p g f x.1 x.2 (wnF l x.1 x.2) + 1) = (match ovF l n d (wnF l n d) with | none => 0 | some x => if m * x.2 < x.1 * e then 0 else evG l m e f x.1 x.2 (wnF l x.1 x.2) + 1) + _
        rw [hc]
        simp only
        rw [if_neg hxp, if_neg hlt, ih]
        omega

theorem evG_le {l : List Mo} {m e : Int} (hm : mB l = true) (hl : 0 < l.length) : ∀ (f : Nat) (n d : Int), 1 ≤ d → 0 ≤ n → evG l m e f n d (wnF l n d) ≤ cF l (wnF l n d)
  | 0, _, _, _, _ => Nat.zero_le _
  | f + 1, n, d, hd, hn => by
    unfold evG
    cases hc : ovF l n d (wnF l n d) with
    | none => exact Nat.zero_le _
    | some x =>
      obtain ⟨_, h3, h4, _, h5⟩ := ov_next hm hl hd hn hc
      have ih := evG_le (m := m) (e := e) hm hl f x.1 x.2 h3 h4
      simp only
      split
      · exact Nat.zero_le _
      · omega

end Go.Proofs.Ytncnojhbdkhcjaa

/- A tournament in memory. -/
namespace Go.Proofs.Ytncnojhbdkhcjaa
open Go.RowKit Go.Hw Go
set_option linter.unusedVariables false
set_option linter.unusedSimpArgs false

/-- a tournament in memory: its motions, now, the winner, how often it changed -/
structure TR (w : World) (kb : Nat) (mv : Value) (l : List Mo) (n d : Int) (ev : Nat) : Prop where
  cell : w.heap[kb]? = some (.cells #[mv, .int .i64 n, .int .i64 d, .int .i64 (wnF l n d : Int), .int .i64 (ev : Int)] 108 (0, 0))
  mot : w.ownsRow 0 23 2 mv l.length (mCells l)
  mne : mv.ownBlock ≠ some kb
  okm : mB l = true
  okt : vfB n d = true
  pos : 0 ≤ n
  len : l.length ≤ 64
  ne : 0 < l.length
theorem TR.kept {F : Nat → Prop} {w w' : World} {kb : Nat} {mv : Value} {l : List Mo} {n d : Int} {ev : Nat} (h : TR w kb mv l n d ev) (hu : Upd F w w') (h1 : ¬ F kb) (h2 : ∀ g, mv.ownBlock = some g → ¬ F g) : TR w' kb mv l n d ev :=
  ⟨hu.heap h.cell h1, own_kept h.mot hu h2, h.mne, h.okm, h.okt, h.pos, h.len, h.ne⟩
theorem TR.ext {w w' : World} {kb : Nat} {mv : Value} {l : List Mo} {n d : Int} {ev : Nat} (h : TR w kb mv l n d ev) (hu : Ext w w') : TR w' kb mv l n d ev :=
  h.kept hu (fun h => h) (fun _ _ h => h)
set_option maxRecDepth 100000 in
set_option maxHeartbeats 2000000 in
theorem winner_x (w : World) (kb : Nat) (mv : Value) (l : List Mo) (n d : Int) (ev : Nat) (h : TR w kb mv l n d ev) : Calls Try.prog 39 #[.pointer (some ⟨kb, 0, none⟩)] w fun e w' => e = .returned (.int .i64 (wnF l n d : Int)) ∧ Ext w w' := by
  have c3 := cellRow h.cell 3 _ rfl
  have hrf := Lib.hid (Upd.refl (fun _ => False) w)
  clear h
  go_enter Try.func39, Try.ntmps39
  go_wp2_with fail
  go_ret
  exact ⟨rfl, hrf.out⟩
set_option maxRecDepth 100000 in
set_option maxHeartbeats 2000000 in
theorem events_x (w : World) (kb : Nat) (mv : Value) (l : List Mo) (n d : Int) (ev : Nat) (h : TR w kb mv l n d ev) : Calls Try.prog 41 #[.pointer (some ⟨kb, 0, none⟩)] w fun e w' => e = .returned (.int .i64 (ev : Int)) ∧ Ext w w' := by
  have c4 := cellRow h.cell 4 _ rfl
  have hrf := Lib.hid (Upd.refl (fun _ => False) w)
  clear h
  go_enter Try.func41, Try.ntmps41
  go_wp2_with fail
  go_ret
  exact ⟨rfl, hrf.out⟩

end Go.Proofs.Ytncnojhbdkhcjaa

/- overtaken. -/
namespace Go.Proofs.Ytncnojhbdkhcjaa
open Go.RowKit Go.Hw Go
set_option linter.unusedVariables false
set_option linter.unusedSimpArgs false

def ovPost (o : Option (Int × Int)) (e : Ending) : Prop := match o with
  | some x => e = .returned (.tuple #[.agg #[.int .i64 x.1, .int .i64 x.2], .bool true])
  | none => ∃ v0 v1, e = .returned (.tuple #[.agg #[.int .i64 v0, .int .i64 v1], .bool false])
set_option maxRecDepth 100000 in
set_option maxHeartbeats 2000000 in
theorem overtaken_x (w : World) (kb : Nat) (mv : Value) (l : List Mo) (n d : Int) (ev : Nat) (h : TR w kb mv l n d ev) :
    Calls Try.prog 65 #[.pointer (some ⟨kb, 0, none⟩)] w fun e w' => ovPost (ovF l n d (wnF l n d)) e ∧ Ext w w' := by
  have HR := Lib.hid h
  have hwl := wnF_lt n d h.ne
  obtain ⟨gm, cm, rfl⟩ := own_some h.mot h.ne
  have HB := Lib.hid (And.intro (allocOld (alloc0 w (.cells #[.int .i64 0, .int .i64 0] 25)) (.cells #[.int .i64 0, .int .i64 0] 25)) (alloc_at (w.alloc (.cells #[.int .i64 0, .int .i64 0] 25)) (.cells #[.int .i64 0, .int .i64 0] 25) (n := w.heap.size + 1) (by simp)))
  have HZ := Lib.hid (((Upd.refl (fun _ => False) w).alloc (.cells #[.int .i64 0, .int .i64 0] 25)).alloc (.cells #[.int .i64 0, .int .i64 0] 25))
  have HL : Hid (((w.alloc (.cells #[.int .i64 0, .int .i64 0] 25)).alloc (.cells #[.int .i64 0, .int .i64 0] 25)).heap.size = w.heap.size + 2) := Lib.hid (by simp)
  have HRB := Lib.hid (h.ext HZ.out)
  clear h
  go_enter Try.func65, Try.ntmps65
  go_wp2_with fail
  generalize ((w.alloc (.cells #[.int .i64 0, .int .i64 0] 25)).alloc (.cells #[.int .i64 0, .int .i64 0] 25)) = wb at *
  obtain ⟨W, hW⟩ : ∃ W, wnF l n d = W := ⟨_, rfl⟩
  have hcell := HRB.out.cell
  have hmo := (SlR.of_own HRB.out.mot).weaken (T := fun _ => True) (fun _ _ => trivial)
  have hmo2 : MoR (fun _ => True) wb (.slice (some ⟨gm, 0, none⟩) l.length cm) l := hmo
  rw [hW] at hcell hwl
  obtain ⟨p0, p1⟩ := hmo2.cells hwl
  have c0 := cellRow hcell 0 (.slice (some ⟨gm, 0, none⟩) l.length cm) rfl
  have c1 := cellRow hcell 1 (.int .i64 n) rfl
  have c2 := cellRow hcell 2 (.int .i64 d) rfl
  have c3 := cellRow hcell 3 (.int .i64 (W : Int)) rfl
  have hl64 := HR.out.len
  have j0 : (0 : Int) ≤ (W : Int) := by omega
  have j1 : (W : Int) < (l.length : Int) := by omega
  simp only [Nat.zero_add] at p0 p1
  obtain ⟨u0, hu0⟩ : ∃ u, (mg l W).1 = u := ⟨_, rfl⟩
  obtain ⟨u1, hu1⟩ : ∃ u, (mg l W).2 = u := ⟨_, rfl⟩
  rw [hu0] at p0
  rw [hu1] at p1
  have HUU := Lib.hid (And.intro hu0 hu1)
  have HWN := Lib.hid hW
  clear hmo hmo2 hcell hu0 hu1 hW
  have xc0 := fun x : XW wb => x.ext.cell c0 (fun h => h)
  have xc3 := fun x : XW wb => x.ext.cell c3 (fun h => h)
  have xp0 := fun x : XW wb => x.ext.cell p0 (fun h => h)
  have xp1 := fun x : XW wb => x.ext.cell p1 (fun h => h)
  refine wp_region_parF (α := Nat) 11 [] 11 [(11, 2)] [[], [0], [0, 1], [0, 1, 2], [], [4], [4, 5], [4, 5, 6], [0, 1, 2, 3, 4, 5, 6, 7], [0, 1, 2, 3, 4, 5, 6, 7, 8], [], [0, 1, 2, 3, 4, 5, 6, 7, 8, 9, 10]]
    [none, none, none, none, none, none, none, none, none, none, some (annBlk (fun g => .pointer (some ⟨g, 0, none⟩)) (fun g => g) wb.heap.size (.cells #[.int .i64 0, .int .i64 0] 23))]
    [false, false, false, false, false, false, false, false, false, false, true] (by kernel_rfl) (by kernel_rfl) rfl (fun _ _ d _ _ h => by cases d <;> exact h) ?_
  simp only [List.take_succ_cons, List.take_zero, pickO, List.getElem?_cons_zero, List.getElem?_cons_succ]
  iterate 10 (refine can_pure0 rfl (fun K hK => ?_); go_simp; refine hK _ ?_; clear hK K)
  refine can_mem _ rfl (by go_simp) (fun W hW hG K hK => ?_) (fun K g9 hK => ?_)
  · go_simp
    exact hK W.heap.size _ ((Upd.refl _ W).alloc _) ⟨hW.size, alloc0 _ _⟩
  refine hK _ ?_; clear hK K
  dsimp only [annBlk]
  refine can_end (fun w8 hW hG => ?_)
  obtain ⟨hb9, hg9⟩ := hG _ (List.mem_append_right _ (List.mem_singleton.2 rfl))
  clear hG
  have H8 : Hid (Ext wb w8) := Lib.hid hW
  have m0 := frozenRow hg9 0
  have m1 := frozenRow hg9 1
  have cc0 := cellRow hg9 0 (.int .i64 0) rfl
  have cc1 := cellRow hg9 1 (.int .i64 0) rfl
  have HG9 := Lib.hid (And.intro hb9 hg9)
  clear hW hg9 hb9
  refine mix_two (fun K hK => ?_); go_simp; refine hK _ _ ?_; clear hK K
  simp only [wpMix]
  clear xc0 xc3 xp0 xp1
  have hs9 : w.heap.size + 2 ≤ g9 := by have h1 := HG9.out.1; have h2 := HL.out; omega
  have HE9 : Hid (Ext wb ((w8.setCell ⟨g9, 0, none⟩ (.int .i64 u0)).setCell ⟨g9, 1, none⟩ (.int .i64 u1))) := Lib.hid ((H8.out.setNew (j := 0) HG9.out.1 (.int .i64 u0)).setNew (j := 1) HG9.out.1 (.int .i64 u1))
  have HW9 := Lib.hid (setBlock (setBlock HG9.out.2 0 (.int .i64 u0)) 1 (.int .i64 u1))
  have HGL : Hid (w.heap.size + 2 ≤ g9) := Lib.hid hs9
  clear m0 m1 cc0 cc1 hs9 H8 HG9 c0 c1 c2 c3 p0 p1
  generalize ((w8.setCell ⟨g9, 0, none⟩ (.int .i64 u0)).setCell ⟨g9, 1, none⟩ (.int .i64 u1)) = w9 at *
  have HT9 := Lib.hid (HRB.out.ext HE9.out)
  have HO9 := Lib.hid (HE9.out.heap HB.out.2 (fun h => h))
  have HN9 := Lib.hid (HE9.out.heap HB.out.1 (fun h => h))
  have HZ9 := Lib.hid (HZ.out.ext HE9.out)
  have HS9 := Lib.hid (show w.heap.size + 2 ≤ w9.heap.size by have h1 := HE9.out.size; have h2 := HL.out; omega)
  clear HRB HB HE9 HZ HL
  have c0 := cellRow HT9.out.cell 0 (.slice (some ⟨gm, 0, none⟩) l.length cm) rfl
  go_wp2_with fail
  go_loopg [5, 26] l.length (fun gk fv kv wr => ∃ (k : Nat) (A : Option (Int × Int)) (q0 q1 : Int), kv = .int .i64 (k : Int) ∧ gk = l.length - k ∧ k ≤ l.length ∧ fv = .bool A.isSome ∧ Hid (ovP l n d W k = A) ∧ Hid (∀ x, A = some x → q0 = x.1 ∧ q1 = x.2) ∧ Hid (Upd (fun j => j = w.heap.size + 1) w9 wr) ∧ Hid (wr.heap[w.heap.size + 1]? = some (.cells #[.int .i64 q0, .int .i64 q1] 25 (0, 0))))
  case atStart => exact ⟨0, none, 0, 0, rfl, rfl, Nat.zero_le _, rfl, Lib.hid rfl, Lib.hid (fun x h => by cases h), Lib.hid (Upd.refl _ _), HO9⟩
  case round =>
    clear HO9 c0
    obtain ⟨gw, hgw⟩ : ∃ g, g = g9 := ⟨_, rfl⟩
    subst hgw
    obtain ⟨k, A, q0, q1, rfl, rfl, hk, rfl, HA, HQ, HU, HBB⟩ := hrel
    by_cases hlk : k < l.length
    · have hkb := (Array.getElem?_eq_some_iff.1 HR.out.cell).1
      have hgm := (HR.out.mot.lt gm rfl).2
      have HT := Lib.hid (HT9.out.kept HU.out (by omega) (fun g hg h => by have hg2 : some gm = some g := hg; injection hg2 with h3; omega))
      have hmo : MoR (fun _ => True) wr (.slice (some ⟨gm, 0, none⟩) l.length cm) l := (SlR.of_own HT.out.mot).weaken (fun _ _ => trivial)
      obtain ⟨p0, p1⟩ := hmo.cells hlk
      simp only [Nat.zero_add] at p0 p1
      have z0 : (0 : Int) ≤ (k : Int) := by omega
      have z1 : (k : Int) < (l.length : Int) := by omega
      have hgw := HGL.out
      have HBW := Lib.hid (HU.out.heap HW9.out (by omega))
      have HNS := Lib.hid (ovP_succ l n d W k)
      rw [HA.out] at HNS
      have HMB := Lib.hid (And.intro (mB_at HR.out.okm W) (mB_at HR.out.okm k))
      obtain ⟨v0, hv0⟩ : ∃ u, (mg l k).1 = u := ⟨_, rfl⟩
      obtain ⟨v1, hv1⟩ : ∃ u, (mg l k).2 = u := ⟨_, rfl⟩
      rw [hv0] at p0
      rw [hv1] at p1
      have HVV := Lib.hid (And.intro hv0 hv1)
      have hb7 := alloc0 wr (.cells #[.int .i64 v0, .int .i64 v1] 23)
      have d0 := cellRow hb7 0 (.int .i64 v0) rfl
      have d1 := cellRow hb7 1 (.int .i64 v1) rfl
      have hb8 := allocOld HBW.out (.cells #[.int .i64 v0, .int .i64 v1] 23)
      have e0 := cellRow hb8 0 (.int .i64 u0) rfl
      have e1 := cellRow hb8 1 (.int .i64 u1) rfl
      have hb6 := allocOld HT.out.cell (.cells #[.int .i64 v0, .int .i64 v1] 23)
      have c1 := cellRow hb6 1 (.int .i64 n) rfl
      have c2 := cellRow hb6 2 (.int .i64 d) rfl
      have HBX := Lib.hid (allocOld HBB.out (.cells #[.int .i64 v0, .int .i64 v1] 23))
      have HUX := Lib.hid (HU.out.alloc (.cells #[.int .i64 v0, .int .i64 v1] 23))
      clear hkb hgm hmo hgw hb7 hb8 hb6 hv0 hv1
      by_cases hsp : u1 < v1
      · have tsp : decide (v1 ≤ u1) = false := decide_eq_false (by omega)
        cases hC : meetB (mg l W) (mg l k) n d
        · have HMT := Lib.hid (fun W' => kmeet_no (mg l W) (mg l k) n d W' HMB.out.1 HMB.out.2 HR.out.okt hC)
          rw [HUU.out.1, HUU.out.2, HVV.out.1, HVV.out.2] at HMT
          have HN2 : Hid (ovP l n d W (k + 1) = A) := Lib.hid (by
            rw [HNS.out]
            unfold ovStep cand
            rw [HUU.out.2, HVV.out.2, decide_eq_true hsp, hC]
            rfl)
          clear hC hsp
          go_wp2_with fail
          generalize (wr.alloc (.cells #[.int .i64 v0, .int .i64 v1] 23)) = wx at *
          have xd0 := fun x : XW wx => x.ext.cell d0 (fun h => h)
          have xd1 := fun x : XW wx => x.ext.cell d1 (fun h => h)
          have xe0 := fun x : XW wx => x.ext.cell e0 (fun h => h)
          have xe1 := fun x : XW wx => x.ext.cell e1 (fun h => h)
          have xc1 := fun x : XW wx => x.ext.cell c1 (fun h => h)
          have xc2 := fun x : XW wx => x.ext.cell c2 (fun h => h)
          have HGX : Hid (w.heap.size + 2 ≤ wx.heap.size) := Lib.hid (Nat.le_trans HS9.out HUX.out.size)
          refine wp_region_parF (α := Nat) 11 [9] 12 [(11, 1), (12, 2)] [[], [], [], [2], [2, 3], [2, 3, 4], [0, 1, 2, 3, 4, 5], [0, 1, 2, 3, 4, 5, 6], [0, 1, 2, 3, 4, 5, 6, 7], [0, 1, 2, 3, 4, 5, 6, 7], [], [0, 1, 2, 3, 4, 5, 6, 7, 8, 10], [0, 1, 2, 3, 4, 5, 6, 7, 8, 9, 10, 11]]
            [none, none, none, none, none, none, some (annVal (.tuple #[.agg #[.int .i64 0, .int .i64 0], .bool false])), none, none, none, some (annBlk (fun g => .pointer (some ⟨g, 0, none⟩)) (fun g => g) wx.heap.size (.cells #[.int .i64 0, .int .i64 0] 25))]
            [false, false, false, false, false, false, true, false, false, false, true] (by kernel_rfl) (by kernel_rfl) rfl (fun _ _ d _ _ h => by cases d <;> exact h) ?_
          simp only [List.take_succ_cons, List.take_zero, pickO, List.getElem?_cons_zero, List.getElem?_cons_succ]
          refine can_pure0 rfl (fun K hK => ?_); go_simp; refine hK _ ?_; clear hK K
          refine can_pure0 rfl (fun K hK => ?_); go_simp; refine hK _ ?_; clear hK K
          refine can_pure0 rfl (fun K hK => ?_); go_simp; refine hK _ ?_; clear hK K
          refine can_pure0 rfl (fun K hK => ?_); go_simp; refine hK _ ?_; clear hK K
          refine can_pure0 rfl (fun K hK => ?_); go_simp; refine hK _ ?_; clear hK K
          refine can_pure0 rfl (fun K hK => ?_); go_simp; refine hK _ ?_; clear hK K
          refine can_mem _ rfl (by go_simp) (fun W hW hG K hK => ?_) (fun K x9 hK => ?_)
          · go_simp
            refine (HMT.out W).mono ?_
            rintro e w' ⟨rfl, h⟩
            exact hK default w' h trivial
          refine hK _ ?_; clear hK K
          dsimp only [annVal]
          refine can_pure0 rfl (fun K hK => ?_); go_simp; refine hK _ ?_; clear hK K
          refine can_pure0 rfl (fun K hK => ?_); go_simp; refine hK _ ?_; clear hK K
          refine can_pure0 rfl (fun K hK => ?_); go_simp; refine hK _ ?_; clear hK K
          refine can_mem _ rfl (by go_simp) (fun W hW hG K hK => ?_) (fun K g9 hK => ?_)
          · go_simp
            exact hK W.heap.size _ ((Upd.refl _ W).alloc _) ⟨hW.size, alloc0 _ _⟩
          refine hK _ ?_; clear hK K
          dsimp only [annBlk]
          refine can_end (fun w8 hW hG => ?_)
          obtain ⟨hb9, hg9⟩ := hG _ (List.mem_append_right _ (List.mem_singleton.2 rfl))
          clear hG
          have H8 : Hid (Ext wx w8) := Lib.hid (hW)
          have m0 := frozenRow hg9 0
          have m1 := frozenRow hg9 1
          have cc0 := cellRow hg9 0 (.int .i64 0) rfl
          have cc1 := cellRow hg9 1 (.int .i64 0) rfl
          have HG9 := Lib.hid (And.intro hb9 hg9)
          clear hW hg9 hb9
          refine mix_one (fun K hK _ => ?_) trivial; go_simp; refine hK _ _ trivial ?_; clear hK K
          refine mix_two (fun K hK => ?_); go_simp; refine hK _ _ ?_; clear hK K
          simp only [wpMix]
          clear xd0 xd1 xe0 xe1 xc1 xc2 d0 d1 e0 e1 c1 c2
          have hg10 := Nat.le_trans HGX.out HG9.out.1
          have HU10 : Hid (Upd (fun j => j = w.heap.size + 1) w9 ((w8.setCell ⟨g9, 0, none⟩ (.int .i64 0)).setCell ⟨g9, 1, none⟩ (.int .i64 0))) := Lib.hid (((HUX.out.ext H8.out).setCell (p := ⟨g9, 0, none⟩) (.inr (Nat.le_trans HUX.out.size HG9.out.1)) _).setCell (p := ⟨g9, 1, none⟩) (.inr (Nat.le_trans HUX.out.size HG9.out.1)) _)
          have HBY := Lib.hid ((((Upd.refl (fun k => k = g9) w8).setCell (p := ⟨g9, 0, none⟩) (.inl rfl) (.int .i64 0)).setCell (p := ⟨g9, 1, none⟩) (.inl rfl) (.int .i64 0)).heap (H8.out.heap HBX.out (fun h => h)) (by omega))
          have hb9 := setBlock (setBlock HG9.out.2 0 (.int .i64 0)) 1 (.int .i64 0)
          have t0 := cellRow hb9 0 (.int .i64 0) rfl
          have t1 := cellRow hb9 1 (.int .i64 0) rfl
          clear hb9 m0 m1 cc0 cc1 HG9 H8 HUX HBX hg10
          generalize ((w8.setCell ⟨g9, 0, none⟩ (.int .i64 0)).setCell ⟨g9, 1, none⟩ (.int .i64 0)) = w10 at *
          have hyw6 := Upd.refl (fun _ => False) w10
          go_wp2_with fail
          go_roundg (l.length - (k + 1))
          case measure => omega
          case rel => exact ⟨k + 1, A, q0, q1, by go_num, rfl, by omega, rfl, HN2, HQ, Lib.hid (HU10.out.ext hyw6), Lib.hid (hyw6.heap HBY.out (fun h => h))⟩
        · have HMT := Lib.hid (fun W' => kmeet_yes (mg l W) (mg l k) n d W' HMB.out.1 HMB.out.2 HR.out.okt hC)
          rw [HUU.out.1, HUU.out.2, HVV.out.1, HVV.out.2] at HMT
          have hvk := (mt_mk HMB.out.1 HMB.out.2 (show (mg l W).2 ≠ (mg l k).2 by rw [HUU.out.2, HVV.out.2]; omega)).2.2.2
          obtain ⟨X, hX⟩ : ∃ u, mtN (mg l W) (mg l k) = u := ⟨_, rfl⟩
          obtain ⟨Y, hY⟩ : ∃ u, mtD (mg l W) (mg l k) = u := ⟨_, rfl⟩
          rw [hX, hY] at HMT hvk
          have HN2 : Hid (ovP l n d W (k + 1) = some (A.elim (X, Y) (fun b => if X * b.2 < b.1 * Y then (X, Y) else b))) := Lib.hid (by
            rw [HNS.out]
            unfold ovStep cand
            rw [HUU.out.2, HVV.out.2, decide_eq_true hsp, hC]
            unfold mt
            rw [hX, hY]
            cases A <;> rfl)
          have HVK := Lib.hid hvk
          clear hvk hX hY
          clear hC hsp
          go_wp2_with fail
          generalize (wr.alloc (.cells #[.int .i64 v0, .int .i64 v1] 23)) = wx at *
          have xd0 := fun x : XW wx => x.ext.cell d0 (fun h => h)
          have xd1 := fun x : XW wx => x.ext.cell d1 (fun h => h)
          have xe0 := fun x : XW wx => x.ext.cell e0 (fun h => h)
          have xe1 := fun x : XW wx => x.ext.cell e1 (fun h => h)
          have xc1 := fun x : XW wx => x.ext.cell c1 (fun h => h)
          have xc2 := fun x : XW wx => x.ext.cell c2 (fun h => h)
          have HGX : Hid (w.heap.size + 2 ≤ wx.heap.size) := Lib.hid (Nat.le_trans HS9.out HUX.out.size)
          refine wp_region_parF (α := Nat) 11 [9] 12 [(11, 1), (12, 2)] [[], [], [], [2], [2, 3], [2, 3, 4], [0, 1, 2, 3, 4, 5], [0, 1, 2, 3, 4, 5, 6], [0, 1, 2, 3, 4, 5, 6, 7], [0, 1, 2, 3, 4, 5, 6, 7], [], [0, 1, 2, 3, 4, 5, 6, 7, 8, 10], [0, 1, 2, 3, 4, 5, 6, 7, 8, 9, 10, 11]]
            [none, none, none, none, none, none, some (annVal (.tuple #[.agg #[.int .i64 X, .int .i64 Y], .bool true])), none, none, none, some (annBlk (fun g => .pointer (some ⟨g, 0, none⟩)) (fun g => g) wx.heap.size (.cells #[.int .i64 0, .int .i64 0] 25))]
            [false, false, false, false, false, false, true, false, false, false, true] (by kernel_rfl) (by kernel_rfl) rfl (fun _ _ d _ _ h => by cases d <;> exact h) ?_
          simp only [List.take_succ_cons, List.take_zero, pickO, List.getElem?_cons_zero, List.getElem?_cons_succ]
          refine can_pure0 rfl (fun K hK => ?_); go_simp; refine hK _ ?_; clear hK K
          refine can_pure0 rfl (fun K hK => ?_); go_simp; refine hK _ ?_; clear hK K
          refine can_pure0 rfl (fun K hK => ?_); go_simp; refine hK _ ?_; clear hK K
          refine can_pure0 rfl (fun K hK => ?_); go_simp; refine hK _ ?_; clear hK K
          refine can_pure0 rfl (fun K hK => ?_); go_simp; refine hK _ ?_; clear hK K
          refine can_pure0 rfl (fun K hK => ?_); go_simp; refine hK _ ?_; clear hK K
          refine can_mem _ rfl (by go_simp) (fun W hW hG K hK => ?_) (fun K x9 hK => ?_)
          · go_simp
            refine (HMT.out W).mono ?_
            rintro e w' ⟨rfl, h⟩
            exact hK default w' h trivial
          refine hK _ ?_; clear hK K
          dsimp only [annVal]
          refine can_pure0 rfl (fun K hK => ?_); go_simp; refine hK _ ?_; clear hK K
          refine can_pure0 rfl (fun K hK => ?_); go_simp; refine hK _ ?_; clear hK K
          refine can_pure0 rfl (fun K hK => ?_); go_simp; refine hK _ ?_; clear hK K
          refine can_mem _ rfl (by go_simp) (fun W hW hG K hK => ?_) (fun K g9 hK => ?_)
          · go_simp
            exact hK W.heap.size _ ((Upd.refl _ W).alloc _) ⟨hW.size, alloc0 _ _⟩
          refine hK _ ?_; clear hK K
          dsimp only [annBlk]
          refine can_end (fun w8 hW hG => ?_)
          obtain ⟨hb9, hg9⟩ := hG _ (List.mem_append_right _ (List.mem_singleton.2 rfl))
          clear hG
          have H8 : Hid (Ext wx w8) := Lib.hid (hW)
          have m0 := frozenRow hg9 0
          have m1 := frozenRow hg9 1
          have cc0 := cellRow hg9 0 (.int .i64 0) rfl
          have cc1 := cellRow hg9 1 (.int .i64 0) rfl
          have HG9 := Lib.hid (And.intro hb9 hg9)
          clear hW hg9 hb9
          refine mix_one (fun K hK _ => ?_) trivial; go_simp; refine hK _ _ trivial ?_; clear hK K
          refine mix_two (fun K hK => ?_); go_simp; refine hK _ _ ?_; clear hK K
          simp only [wpMix]
          clear xd0 xd1 xe0 xe1 xc1 xc2 d0 d1 e0 e1 c1 c2
          have hg10 := Nat.le_trans HGX.out HG9.out.1
          have HU10 : Hid (Upd (fun j => j = w.heap.size + 1) w9 ((w8.setCell ⟨g9, 0, none⟩ (.int .i64 X)).setCell ⟨g9, 1, none⟩ (.int .i64 Y))) := Lib.hid (((HUX.out.ext H8.out).setCell (p := ⟨g9, 0, none⟩) (.inr (Nat.le_trans HUX.out.size HG9.out.1)) _).setCell (p := ⟨g9, 1, none⟩) (.inr (Nat.le_trans HUX.out.size HG9.out.1)) _)
          have HBY := Lib.hid ((((Upd.refl (fun k => k = g9) w8).setCell (p := ⟨g9, 0, none⟩) (.inl rfl) (.int .i64 X)).setCell (p := ⟨g9, 1, none⟩) (.inl rfl) (.int .i64 Y)).heap (H8.out.heap HBX.out (fun h => h)) (by omega))
          have hb9 := setBlock (setBlock HG9.out.2 0 (.int .i64 X)) 1 (.int .i64 Y)
          have t0 := cellRow hb9 0 (.int .i64 X) rfl
          have t1 := cellRow hb9 1 (.int .i64 Y) rfl
          clear hb9 m0 m1 cc0 cc1 HG9 H8 HUX HBX hg10
          generalize ((w8.setCell ⟨g9, 0, none⟩ (.int .i64 X)).setCell ⟨g9, 1, none⟩ (.int .i64 Y)) = w10 at *
          cases A with
          | none =>
            simp only [Option.elim] at HN2
            have hrfs := Upd.refl (fun _ => False) w10
            have HB6 := hrfs.heap HBY.out (fun h => h)
            have z2 := cellRow HB6 0 (.int .i64 q0) rfl
            have z3 := cellRow HB6 1 (.int .i64 q1) rfl
            have n0 := frozenRow HB6 0
            have n1 := frozenRow HB6 1
            have r0 := hrfs.cell t0 (fun h => h)
            have r1 := hrfs.cell t1 (fun h => h)
            have HU11 := Lib.hid (((HU10.out.ext hrfs).setCell (p := ⟨w.heap.size + 1, 0, none⟩) (.inl rfl) (.int .i64 X)).setCell (p := ⟨w.heap.size + 1, 1, none⟩) (.inl rfl) (.int .i64 Y))
            have HB11 := Lib.hid (setBlock (setBlock HB6 0 (.int .i64 X)) 1 (.int .i64 Y))
            clear HB6 hrfs HBY HU10 t0 t1
            go_wp2_with fail
            go_roundg (l.length - (k + 1))
            case measure => omega
            case rel => exact ⟨k + 1, some (X, Y), X, Y, by go_num, rfl, by omega, rfl, HN2, Lib.hid (fun x hx => by injection hx with hx; subst hx; exact ⟨rfl, rfl⟩), HU11, HB11⟩
          | some b =>
            obtain ⟨e1, e2⟩ := HQ.out b rfl
            obtain ⟨b0, b1⟩ := b
            simp only at e1 e2
            subst e1 e2
            simp only [Option.elim] at HN2
            have hvb : vfB q0 q1 = true := by
              obtain ⟨⟨i, hi, hci, hbi⟩, _⟩ := (ovP_spec n d W HR.out.okm k).2 _ HA.out
              have h3 := (cand_ok HR.out.okm hci).2.2.1
              rw [← hbi] at h3
              exact h3
            have HBF := Lib.hid (fun W' => before_x X Y q0 q1 W' HVK.out hvb)
            clear hvb
            have y0 := cellRow HBY.out 0 (.int .i64 q0) rfl
            have y1 := cellRow HBY.out 1 (.int .i64 q1) rfl
            have hrfs := Upd.refl (fun _ => False) w10
            by_cases hlt : X * q1 < q0 * Y
            · rw [if_pos hlt] at HN2
              rw [decide_eq_true hlt] at HBF
              clear hlt
              go_wp2_with fail
              refine (HBF.out _).mono ?_
              rintro e w6 ⟨rfl, hyw6⟩
              clear y0 y1
              have HB6 := hyw6.heap HBY.out (fun h => h)
              have z2 := cellRow HB6 0 (.int .i64 q0) rfl
              have z3 := cellRow HB6 1 (.int .i64 q1) rfl
              have n0 := frozenRow HB6 0
              have n1 := frozenRow HB6 1
              have r0 := hyw6.cell t0 (fun h => h)
              have r1 := hyw6.cell t1 (fun h => h)
              have HU11 := Lib.hid (((HU10.out.ext hyw6).setCell (p := ⟨w.heap.size + 1, 0, none⟩) (.inl rfl) (.int .i64 X)).setCell (p := ⟨w.heap.size + 1, 1, none⟩) (.inl rfl) (.int .i64 Y))
              have HB11 := Lib.hid (setBlock (setBlock HB6 0 (.int .i64 X)) 1 (.int .i64 Y))
              clear HB6 hyw6 HBY HU10 t0 t1
              go_wp2_with fail
              go_roundg (l.length - (k + 1))
              case measure => omega
              case rel => exact ⟨k + 1, some (X, Y), X, Y, by go_num, rfl, by omega, rfl, HN2, Lib.hid (fun x hx => by injection hx with hx; subst hx; exact ⟨rfl, rfl⟩), HU11, HB11⟩
            · rw [if_neg hlt] at HN2
              rw [decide_eq_false hlt] at HBF
              clear hlt
              go_wp2_with fail
              refine (HBF.out _).mono ?_
              rintro e w6 ⟨rfl, hyw6⟩
              clear y0 y1
              go_wp2_with fail
              go_roundg (l.length - (k + 1))
              case measure => omega
              case rel => exact ⟨k + 1, some (q0, q1), q0, q1, by go_num, rfl, by omega, rfl, HN2, HQ, Lib.hid (HU10.out.ext hyw6), Lib.hid (hyw6.heap HBY.out (fun h => h))⟩
      · have tsp : decide (v1 ≤ u1) = true := decide_eq_true (by omega)
        have HN2 : Hid (ovP l n d W (k + 1) = A) := Lib.hid (by
          rw [HNS.out]
          unfold ovStep cand
          rw [HUU.out.2, HVV.out.2, decide_eq_false hsp]
          rfl)
        clear hsp
        go_wp2_with fail
        go_roundg (l.length - (k + 1))
        case measure => omega
        case rel => exact ⟨k + 1, A, q0, q1, by go_num, rfl, by omega, rfl, HN2, HQ, HUX, HBX⟩
    · obtain rfl : k = l.length := by omega
      have hf : Hid (ovF l n d (wnF l n d) = A) := Lib.hid (by rw [HWN.out]; exact HA.out)
      have HF : Hid (Ext w wr) := Lib.hid (HZ9.out.trans' HU.out (fun i hi e => by omega))
      have z0 := cellRow HBB.out 0 (.int .i64 q0) rfl
      have z1 := cellRow HBB.out 1 (.int .i64 q1) rfl
      have hbr := HU.out.heap HN9.out (by omega)
      have r0 := cellRow hbr 0 (.int .i64 0) rfl
      have r1 := cellRow hbr 1 (.int .i64 0) rfl
      have s0 := frozenRow hbr 0
      have s1 := frozenRow hbr 1
      clear HA HWN hlk hk HU HBB hbr
      cases A with
      | none =>
        go_wp2_with fail
        refine bodyPost_ret (v := .tuple #[.agg #[.int .i64 q0, .int .i64 q1], .bool false]) (by simp [results, Try.results65, go_sem, *]) rfl ?_
        rw [hf.out]
        exact ⟨⟨_, _, rfl⟩, (HF.out.setNew (Nat.le_refl _) _).setNew (Nat.le_refl _) _⟩
      | some x =>
        obtain ⟨rfl, rfl⟩ := HQ.out x rfl
        go_wp2_with fail
        refine bodyPost_ret (v := .tuple #[.agg #[.int .i64 x.1, .int .i64 x.2], .bool true]) (by simp [results, Try.results65, go_sem, *]) rfl ?_
        rw [hf.out]
        exact ⟨rfl, (HF.out.setNew (Nat.le_refl _) _).setNew (Nat.le_refl _) _⟩

end Go.Proofs.Ytncnojhbdkhcjaa

/- Advance of a tournament. -/
namespace Go.Proofs.Ytncnojhbdkhcjaa
open Go.RowKit Go.Hw Go
set_option linter.unusedVariables false
set_option linter.unusedSimpArgs false
set_option maxRecDepth 100000 in
set_option maxHeartbeats 2000000 in
theorem tadv_bad (w : World) (kb : Nat) (m e0 : Int) (m0 : -9223372036854775808 ≤ m) (m1 : m ≤ 9223372036854775807) (e0l : -9223372036854775808 ≤ e0) (e0h : e0 ≤ 9223372036854775807) (ht : timeB m e0 = false) :
    Calls Try.prog 43 #[.pointer (some ⟨kb, 0, none⟩), .agg #[.int .i64 m, .int .i64 e0]] w fun e w' => e = .returned (.tuple #[.int .i64 0, .int .i64 1]) ∧ Ext w w' := by
  have HZ := Lib.hid ((Upd.refl (fun _ => False) w).alloc (.cells #[.int .i64 m, .int .i64 e0] 25))
  have hb := alloc0 w (.cells #[.int .i64 m, .int .i64 e0] 25)
  have c0 := cellRow hb 0 (.int .i64 m) rfl
  have c1 := cellRow hb 1 (.int .i64 e0) rfl
  have HTT : Hid (∀ W, Calls Try.prog 47 #[.agg #[.int .i64 m, .int .i64 e0]] W fun e w' => e = .returned (.bool false) ∧ Ext W w') := Lib.hid (fun W => by have := time_x m e0 W m0 m1 e0l e0h; rw [ht] at this; exact this)
  clear hb ht
  go_enter Try.func43, Try.ntmps43
  go_wp2_with fail
  refine (HTT.out _).mono ?_
  rintro e w4 ⟨rfl, hw4⟩
  have H4 := Lib.hid (HZ.out.ext hw4)
  clear hw4 c0 c1
  go_wp2_with fail
  go_ret2
  exact ⟨rfl, H4.out⟩
set_option maxRecDepth 100000 in
set_option maxHeartbeats 2000000 in
theorem tadv_early (w : World) (kb : Nat) (mv : Value) (l : List Mo) (n d m e0 : Int) (ev : Nat) (h : TR w kb mv l n d ev) (ht : timeB m e0 = true) (hlt : m * d < n * e0) :
    Calls Try.prog 43 #[.pointer (some ⟨kb, 0, none⟩), .agg #[.int .i64 m, .int .i64 e0]] w fun e w' => e = .returned (.tuple #[.int .i64 0, .int .i64 29]) ∧ Ext w w' := by
  obtain ⟨hv, hn⟩ := (timeB_iff _ _).1 ht
  obtain ⟨vn, vd, vd'⟩ := vf_bd hv
  have HZ := Lib.hid ((Upd.refl (fun _ => False) w).alloc (.cells #[.int .i64 m, .int .i64 e0] 25))
  have HB := Lib.hid (And.intro (alloc0 w (.cells #[.int .i64 m, .int .i64 e0] 25)) (allocOld h.cell (.cells #[.int .i64 m, .int .i64 e0] 25)))
  have HTT : Hid (∀ W, Calls Try.prog 47 #[.agg #[.int .i64 m, .int .i64 e0]] W fun e w' => e = .returned (.bool true) ∧ Ext W w') := Lib.hid (fun W => by have := time_x m e0 W (by omega) (by omega) (by omega) (by omega); rw [ht] at this; exact this)
  have HBF : Hid (∀ W, Calls Try.prog 55 #[.agg #[.int .i64 m, .int .i64 e0], .agg #[.int .i64 n, .int .i64 d]] W fun e w' => e = .returned (.bool true) ∧ Ext W w') := Lib.hid (fun W => by have := before_x m e0 n d W hv h.okt; rw [decide_eq_true hlt] at this; exact this)
  have HVV := Lib.hid (And.intro hv hn)
  have HTR := Lib.hid h
  have c0 := cellRow HB.out.1 0 (.int .i64 m) rfl
  have c1 := cellRow HB.out.1 1 (.int .i64 e0) rfl
  clear ht hv hn vn vd vd' h
  go_enter Try.func43, Try.ntmps43
  go_wp2_with fail
  refine (HTT.out _).mono ?_
  rintro e w4 ⟨rfl, hw4⟩
  have H4 := Lib.hid (HZ.out.ext hw4)
  have hb4 := hw4.heap HB.out.1 (fun h => h)
  have hk4 := hw4.heap HB.out.2 (fun h => h)
  have HB4 := Lib.hid hb4
  have d0 := cellRow hb4 0 (.int .i64 m) rfl
  have d1 := cellRow hb4 1 (.int .i64 e0) rfl
  have d2 := cellRow hk4 1 (.int .i64 n) rfl
  have d3 := cellRow hk4 2 (.int .i64 d) rfl
  have x0 := fun x : XW w4 => x.ext.cell d0 (fun h => h)
  have x1 := fun x : XW w4 => x.ext.cell d1 (fun h => h)
  have x2 := fun x : XW w4 => x.ext.cell d2 (fun h => h)
  have x3 := fun x : XW w4 => x.ext.cell d3 (fun h => h)
  have hrf := Upd.refl (fun _ => False) w4
  clear hw4 c0 c1 hb4 hk4 d0 d1 d2 d3
  go_wp2_with fail
  refine wp_region_ext w4 (by assumption) (by kernel_rfl) (by kernel_rfl) ?_
  repeat (first | go_big_quiet_skip | (go_big_quiet_want; go_big_quiet_op; first | go_big_quiet_on | (apply Exists.intro; refine ⟨fun x => ?_, ?_⟩; (go_at_call 55; exact XW.call (HBF.out x.val)); go_big_quiet_on)))
  refine wpQuiet_nil ?_
  rintro w6 ⟨⟨_, hyw6⟩, rfl⟩
  try dsimp only
  have H6 := Lib.hid (H4.out.ext hyw6)
  have HB6 := Lib.hid (hyw6.heap HB4.out (fun h => h))
  clear x0 x1 x2 x3 hrf hyw6 HB4 HBF HTT HB
  go_wp2_with fail
  go_ret2
  exact ⟨rfl, H6.out⟩
set_option maxRecDepth 100000 in
set_option maxHeartbeats 2000000 in
theorem tadv_ok (w : World) (kb : Nat) (mv : Value) (l : List Mo) (n d m e0 : Int) (ev : Nat) (h : TR w kb mv l n d ev) (ht : timeB m e0 = true) (hle : n * e0 ≤ m * d) (hev : ev ≤ 100000) :
    Calls Try.prog 43 #[.pointer (some ⟨kb, 0, none⟩), .agg #[.int .i64 m, .int .i64 e0]] w fun e w' => e = .returned (.tuple #[.int .i64 (wnF l m e0), .int .i64 0]) ∧ TR w' kb mv l m e0 (ev + evG l m e0 l.length n d (wnF l n d)) ∧ Upd (fun k => k = kb) w w' := by
  have HLE := Lib.hid hle
  obtain ⟨am, cm, rfl⟩ := own_shape h.mot
  obtain ⟨hv, hn⟩ := (timeB_iff _ _).1 ht
  obtain ⟨vn, vd, vd'⟩ := vf_bd hv
  have HZ := Lib.hid ((Upd.refl (fun _ => False) w).alloc (.cells #[.int .i64 m, .int .i64 e0] 25))
  have HB := Lib.hid (And.intro (alloc0 w (.cells #[.int .i64 m, .int .i64 e0] 25)) (allocOld h.cell (.cells #[.int .i64 m, .int .i64 e0] 25)))
  have HTT : Hid (∀ W, Calls Try.prog 47 #[.agg #[.int .i64 m, .int .i64 e0]] W fun e w' => e = .returned (.bool true) ∧ Ext W w') := Lib.hid (fun W => by have := time_x m e0 W (by omega) (by omega) (by omega) (by omega); rw [ht] at this; exact this)
  have HBF : Hid (∀ W, Calls Try.prog 55 #[.agg #[.int .i64 m, .int .i64 e0], .agg #[.int .i64 n, .int .i64 d]] W fun e w' => e = .returned (.bool false) ∧ Ext W w') := Lib.hid (fun W => by have := before_x m e0 n d W hv h.okt; rw [decide_eq_false (by omega : ¬ m * d < n * e0)] at this; exact this)
  have HVV := Lib.hid (And.intro hv hn)
  have HTR := Lib.hid h
  have c0 := cellRow HB.out.1 0 (.int .i64 m) rfl
  have c1 := cellRow HB.out.1 1 (.int .i64 e0) rfl
  clear ht hv hn vn vd vd' h
  go_enter Try.func43, Try.ntmps43
  go_wp2_with fail
  refine (HTT.out _).mono ?_
  rintro e w4 ⟨rfl, hw4⟩
  have H4 := Lib.hid (HZ.out.ext hw4)
  have hb4 := hw4.heap HB.out.1 (fun h => h)
  have hk4 := hw4.heap HB.out.2 (fun h => h)
  have HB4 := Lib.hid hb4
  have d0 := cellRow hb4 0 (.int .i64 m) rfl
  have d1 := cellRow hb4 1 (.int .i64 e0) rfl
  have d2 := cellRow hk4 1 (.int .i64 n) rfl
  have d3 := cellRow hk4 2 (.int .i64 d) rfl
  have x0 := fun x : XW w4 => x.ext.cell d0 (fun h => h)
  have x1 := fun x : XW w4 => x.ext.cell d1 (fun h => h)
  have x2 := fun x : XW w4 => x.ext.cell d2 (fun h => h)
  have x3 := fun x : XW w4 => x.ext.cell d3 (fun h => h)
  have hrf := Upd.refl (fun _ => False) w4
  clear hw4 c0 c1 hb4 hk4 d0 d1 d2 d3
  go_wp2_with fail
  refine wp_region_ext w4 (by assumption) (by kernel_rfl) (by kernel_rfl) ?_
  repeat (first | go_big_quiet_skip | (go_big_quiet_want; go_big_quiet_op; first | go_big_quiet_on | (apply Exists.intro; refine ⟨fun x => ?_, ?_⟩; (go_at_call 55; exact XW.call (HBF.out x.val)); go_big_quiet_on)))
  refine wpQuiet_nil ?_
  rintro w6 ⟨⟨_, hyw6⟩, rfl⟩
  try dsimp only
  have H6 := Lib.hid (H4.out.ext hyw6)
  have HB6 := Lib.hid (hyw6.heap HB4.out (fun h => h))
  clear x0 x1 x2 x3 hrf hyw6 HB4 HBF HTT HB
  go_wp2_with fail
  have HKB := Lib.hid (Array.getElem?_eq_some_iff.1 HTR.out.cell).1
  have HT6 := Lib.hid (HTR.out.ext H6.out)
  have HU6 : Hid (Upd (fun k => k = kb) w w6) := Lib.hid (H6.out.mono (fun _ _ h => h.elim))
  have HD := Lib.hid (vf_bd HTR.out.okt).2.1.1
  have HE := Lib.hid (vf_bd HVV.out.1).2.1.1
  have HP := Lib.hid HTR.out.pos
  have HM := Lib.hid HTR.out.okm
  have HN := Lib.hid HTR.out.ne
  have HLN := Lib.hid HTR.out.len
  have HCL := Lib.hid (cF_le (l := l) (wnF_lt n d HTR.out.ne))
  clear HTR H4 H6
  go_loopg [] (cF l (wnF l n d) + 1) (fun gk wr => ∃ (p q : Int) (j : Nat), gk = cF l (wnF l p q) + 1 ∧ Hid (TR wr kb (.slice am l.length cm) l p q (ev + j)) ∧ Hid (Upd (fun k => k = kb) w wr) ∧ Hid (wr.heap[w.heap.size]? = some (.cells #[.int .i64 m, .int .i64 e0] 25 (0, 0))) ∧ Hid (p * e0 ≤ m * q) ∧ Hid (evG l m e0 l.length n d (wnF l n d) = j + evG l m e0 l.length p q (wnF l p q)) ∧ Hid (j + cF l (wnF l p q) ≤ l.length))
  case atStart => exact ⟨n, d, 0, rfl, HT6, HU6, HB6, HLE, Lib.hid (Nat.zero_add _).symm, Lib.hid (by have := HCL.out; omega)⟩
  case round =>
    clear HT6 HU6 HB6 HCL HLE
    obtain ⟨p, q, j, rfl, HTW, HUW, HBR, HLE, HJ, HJC⟩ := hrel
    have HQ := Lib.hid (vf_bd HTW.out.okt).2.1.1
    obtain ⟨E, hE⟩ : ∃ E : Nat, ev + j = E := ⟨_, rfl⟩
    rw [hE] at HTW
    have HEE := Lib.hid hE
    have HE64 : Hid (E ≤ 100064 ∧ j ≤ 64) := Lib.hid (by have := HJC.out; have := HLN.out; omega)
    clear hE
    go_wp2_with fail
    refine (overtaken_x _ _ _ _ _ _ _ HTW.out).mono ?_
    rintro e w7 ⟨hov, hw7⟩
    have HTW0 := HTW
    have HUW0 := HUW
    have HBR0 := HBR
    clear HTW HUW HBR
    have HTW := Lib.hid (HTW0.out.ext hw7)
    have HUW := Lib.hid (HUW0.out.ext hw7)
    have HBR := Lib.hid (hw7.heap HBR0.out (fun h => h))
    clear HTW0 HUW0 HBR0 hw7
    obtain ⟨O, hO⟩ : ∃ o, ovF l p q (wnF l p q) = o := ⟨_, rfl⟩
    rw [hO] at hov
    have HOV := Lib.hid hO
    clear hO
    cases O with
    | none =>
      obtain ⟨v0, v1, rfl⟩ := hov
      have hj : j = j + evG l m e0 l.length p q (wnF l p q) := by
        have : evG l m e0 l.length p q (wnF l p q) = 0 := by
          cases l.length with
          | zero => rfl
          | succ f => unfold evG; rw [HOV.out]
        omega
      have HWE : Hid (wnF l m e0 = wnF l p q) := Lib.hid (ev_none HN.out HQ.out HE.out HTW.out.pos HLE.out (fun i hi h => by rw [(ovP_spec p q (wnF l p q) HM.out l.length).1 HOV.out i hi] at h; cases h))
      have HJ2 := Lib.hid (HJ.out.trans hj.symm)
      clear hj HJ
      have HJ := HJ2
      clear HJ2
      have HU9 : Hid (Ext w7 (w7.alloc (.cells #[.int .i64 v0, .int .i64 v1] 25))) := Lib.hid ((Upd.refl (fun _ => False) w7).alloc _)
      have HTW9 := Lib.hid (HTW.out.ext HU9.out)
      have HUW9 := Lib.hid (HUW.out.ext HU9.out)
      have HBR9 := Lib.hid (HU9.out.heap HBR.out (fun h => h))
      clear HTW HUW HBR HU9
      have HTW := HTW9
      have HUW := HUW9
      have HBR := HBR9
      clear HTW9 HUW9 HBR9
      have hkw := HTW.out.cell
      have s0 := cellRow HBR.out 0 (.int .i64 m) rfl
      have s1 := cellRow HBR.out 1 (.int .i64 e0) rfl
      have n0 := frozenRow hkw 1
      have n1 := frozenRow hkw 2
      have k1 := cellRow hkw 1 (.int .i64 p) rfl
      have k2 := cellRow hkw 2 (.int .i64 q) rfl
      have k3 := cellRow hkw 3 (.int .i64 (wnF l p q : Int)) rfl
      clear hkw
      go_wp2_with fail
      refine bodyPost_ret (v := .tuple #[.int .i64 (wnF l p q), .int .i64 0]) (by simp [results, Try.results43, go_sem, *]) rfl ?_
      have hst := ((Upd.refl (fun k => k = kb) (w7.alloc (.cells #[.int .i64 v0, .int .i64 v1] 25))).setCell (p := ⟨kb, 1, none⟩) (.inl rfl) (.int .i64 m)).setCell (p := ⟨kb, 2, none⟩) (.inl rfl) (.int .i64 e0)
      refine ⟨by rw [HWE.out], ⟨?_, own_kept HTW.out.mot hst (fun g hg h => HTW.out.mne (by rw [hg, h])), HTW.out.mne, HTW.out.okm, HVV.out.1, HVV.out.2, HTW.out.len, HTW.out.ne⟩, HUW.out.trans' hst (fun i hi e => e)⟩
      rw [HWE.out, HJ.out, HEE.out]
      exact setBlock (setBlock HTW.out.cell 1 (.int .i64 m)) 2 (.int .i64 e0)
    | some x =>
      obtain ⟨X, Y⟩ := x
      subst hov
      have HNX := Lib.hid (ov_next HM.out HN.out HQ.out HTW.out.pos HOV.out)
      have HLA := Lib.hid (fun W (hW : Ext (w7.alloc (.cells #[.int .i64 X, .int .i64 Y] 25)) W) => last_x l X Y _ _ W HN.out (by have := HLN.out; omega) HM.out HNX.out.1 ((SlR.of_own ((HTW.out.ext ((Upd.refl (fun _ => False) w7).alloc (.cells #[.int .i64 X, .int .i64 Y] 25))).ext hW).mot)) (fun k hk => ((HTW.out.ext ((Upd.refl (fun _ => False) w7).alloc (.cells #[.int .i64 X, .int .i64 Y] 25))).ext hW).mot.lt k hk |>.2))
      have HBF := Lib.hid (fun W => before_x m e0 X Y W HVV.out.1 HNX.out.1)
      have HBX := Lib.hid (alloc0 w7 (.cells #[.int .i64 X, .int .i64 Y] 25))
      have HU9 : Hid (Ext w7 (w7.alloc (.cells #[.int .i64 X, .int .i64 Y] 25))) := Lib.hid ((Upd.refl (fun _ => False) w7).alloc _)
      have HTW9 := Lib.hid (HTW.out.ext HU9.out)
      have HUW9 := Lib.hid (HUW.out.ext HU9.out)
      have HBR9 := Lib.hid (HU9.out.heap HBR.out (fun h => h))
      clear HTW HUW HBR HU9
      have HTW := HTW9
      have HUW := HUW9
      have HBR := HBR9
      clear HTW9 HUW9 HBR9
      have s0 := cellRow HBR.out 0 (.int .i64 m) rfl
      have s1 := cellRow HBR.out 1 (.int .i64 e0) rfl
      have y0 := cellRow HBX.out 0 (.int .i64 X) rfl
      have y1 := cellRow HBX.out 1 (.int .i64 Y) rfl
      go_wp2_with fail
      generalize (w7.alloc (.cells #[.int .i64 X, .int .i64 Y] 25)) = w9 at *
      by_cases hlt : m * Y < X * e0
      · have HWE : Hid (wnF l m e0 = wnF l p q) := Lib.hid (ev_none HN.out HQ.out HE.out HTW.out.pos HLE.out (fun i hi h => by
          have h3 := ((ovP_spec p q (wnF l p q) HM.out l.length).2 (X, Y) HOV.out).2 i hi h
          have h4 := (cand_ok HM.out h).2.2.2
          have h5 := HNX.out.2.1
          have h0 := HE.out
          simp only at h3 h5
          have h6 := fr_lt_trans (a := m) (b := e0) (c := X) (d := Y) (e := (mt l (wnF l p q) i).1) (f := (mt l (wnF l p q) i).2) (by omega) (by omega) h4 (by omega) h3
          rcases Int.lt_or_eq_of_le h6.1 with h7 | h7
          · exact h7
          · have := (h6.2 h7).1
            omega))
        have hj : evG l m e0 l.length p q (wnF l p q) = 0 := by
          cases l.length with
          | zero => rfl
          | succ f => unfold evG; rw [HOV.out]; exact if_pos hlt
        have HJ2 : Hid (evG l m e0 l.length n d (wnF l n d) = j) := Lib.hid (by have := HJ.out; omega)
        clear hj HJ
        have HJ := HJ2
        clear HJ2
        rw [decide_eq_true hlt] at HBF
        refine (HBF.out _).mono ?_
        rintro e wb ⟨rfl, hwb⟩
        have HTW9 := Lib.hid (HTW.out.ext hwb)
        have HUW9 := Lib.hid (HUW.out.ext hwb)
        have HBR9 := Lib.hid (hwb.heap HBR.out (fun h => h))
        clear HTW HUW HBR hwb s0 s1 y0 y1
        have HTW := HTW9
        have HUW := HUW9
        have HBR := HBR9
        clear HTW9 HUW9 HBR9
        have hkw := HTW.out.cell
        have s0 := cellRow HBR.out 0 (.int .i64 m) rfl
        have s1 := cellRow HBR.out 1 (.int .i64 e0) rfl
        have n0 := frozenRow hkw 1
        have n1 := frozenRow hkw 2
        have k1 := cellRow hkw 1 (.int .i64 p) rfl
        have k2 := cellRow hkw 2 (.int .i64 q) rfl
        have k3 := cellRow hkw 3 (.int .i64 (wnF l p q : Int)) rfl
        clear hkw
        go_wp2_with fail
        refine bodyPost_ret (v := .tuple #[.int .i64 (wnF l p q), .int .i64 0]) (by simp [results, Try.results43, go_sem, *]) rfl ?_
        have hst := ((Upd.refl (fun k => k = kb) wb).setCell (p := ⟨kb, 1, none⟩) (.inl rfl) (.int .i64 m)).setCell (p := ⟨kb, 2, none⟩) (.inl rfl) (.int .i64 e0)
        refine ⟨by rw [HWE.out], ⟨?_, own_kept HTW.out.mot hst (fun g hg h => HTW.out.mne (by rw [hg, h])), HTW.out.mne, HTW.out.okm, HVV.out.1, HVV.out.2, HTW.out.len, HTW.out.ne⟩, HUW.out.trans' hst (fun i hi e => e)⟩
        rw [HWE.out, HJ.out, HEE.out]
        exact setBlock (setBlock HTW.out.cell 1 (.int .i64 m)) 2 (.int .i64 e0)
      · have HJ2 : Hid (evG l m e0 l.length n d (wnF l n d) = (j + 1) + evG l m e0 l.length X Y (wnF l X Y)) := Lib.hid (by
          have h1 := HJ.out
          have hf := evG_fuel (m := m) (e := e0) HM.out HN.out l.length (l.length + 1) p q HQ.out HTW.out.pos (by have := HJC.out; omega) (by have := HJC.out; omega)
          rw [hf] at h1
          have h2 : evG l m e0 (l.length + 1) p q (wnF l p q) = evG l m e0 l.length X Y (wnF l X Y) + 1 := by
            show (match ovF l p q (wnF l p q) with | none => 0 | some x => if m * x.2 < x.1 * e0 then 0 else evG l m e0 l.length x.1 x.2 (wnF l x.1 x.2) + 1) = _
            rw [HOV.out]
            exact if_neg hlt
          omega)
        have HLE2 : Hid (X * e0 ≤ m * Y) := Lib.hid (by omega)
        have HJC2 : Hid ((j + 1) + cF l (wnF l X Y) ≤ l.length) := Lib.hid (by have h1 := HNX.out.2.2.2.2; have := HJC.out; omega)
        have HEE2 : Hid (ev + (j + 1) = E + 1) := Lib.hid (by have := HEE.out; omega)
        rw [decide_eq_false hlt] at HBF
        refine (HBF.out _).mono ?_
        rintro e wb ⟨rfl, hwb⟩
        have HTW9 := Lib.hid (HTW.out.ext hwb)
        have HUW9 := Lib.hid (HUW.out.ext hwb)
        have HBR9 := Lib.hid (hwb.heap HBR.out (fun h => h))
        have hbx := hwb.heap HBX.out (fun h => h)
        have HLA9 := Lib.hid (fun W (hW : Ext wb W) => HLA.out W (hwb.ext hW))
        clear HTW HUW HBR hwb s0 s1 y0 y1 HLA hlt HBX
        have HTW := HTW9
        have HUW := HUW9
        have HBR := HBR9
        have HLA := HLA9
        clear HTW9 HUW9 HBR9 HLA9
        have q0 := cellRow HTW.out.cell 0 (.slice am l.length cm) rfl
        have q1 := cellRow hbx 0 (.int .i64 X) rfl
        have q2 := cellRow hbx 1 (.int .i64 Y) rfl
        have xq0 := fun x : XW wb => x.ext.cell q0 (fun h => h)
        have xq1 := fun x : XW wb => x.ext.cell q1 (fun h => h)
        have xq2 := fun x : XW wb => x.ext.cell q2 (fun h => h)
        clear q0 q1 q2 hbx
        go_wp2_with fail
        refine wp_region_parF (α := Nat) 11 [1] 12 [(11, 1), (12, 2), (13, 2), (14, 2)] [[], [], [], [], [3], [3, 4], [3, 4, 5], [], [3, 4, 5, 6, 7], [0, 2, 3, 4, 5, 6, 7, 8], [0, 2, 3, 4, 5, 6, 7, 8, 9], [0, 2, 3, 4, 5, 6, 7, 8, 9, 10], [0, 1, 2, 3, 4, 5, 6, 7, 8, 9, 10, 11], [0, 1, 2, 3, 4, 5, 6, 7, 8, 9, 10, 11, 12], [0, 1, 2, 3, 4, 5, 6, 7, 8, 9, 10, 11, 12, 13]]
          [none, none, none, none, none, none, none, none, some (annVal (.int .i64 (wnF l X Y : Int))), none, none]
          [false, false, false, false, false, false, false, false, true, false, false] (by kernel_rfl) (by kernel_rfl) rfl (fun _ _ d _ _ h => by cases d <;> exact h) ?_
        simp only [List.take_succ_cons, List.take_zero, pickO, List.getElem?_cons_zero, List.getElem?_cons_succ]
        iterate 8 (refine can_pure0 rfl (fun K hK => ?_); go_simp; refine hK _ ?_; clear hK K)
        refine can_mem _ rfl (by go_simp) (fun W hW hG K hK => ?_) (fun K x9 hK => ?_)
        · go_simp
          refine (HLA.out W hW).mono ?_
          rintro e w' ⟨rfl, h⟩
          exact hK default w' h trivial
        refine hK _ ?_; clear hK K
        dsimp only [annVal]
        iterate 2 (refine can_pure0 rfl (fun K hK => ?_); go_simp; refine hK _ ?_; clear hK K)
        refine can_end (fun w8 hW hG => ?_)
        clear hG
        have HT8 := Lib.hid (HTW.out.ext hW)
        have HU8 := Lib.hid (HUW.out.ext hW)
        have HB8 := Lib.hid (hW.heap HBR.out (fun h => h))
        have hkw := HT8.out.cell
        have n0 := frozenRow hkw 1
        have n1 := frozenRow hkw 2
        have k1 := cellRow hkw 1 (.int .i64 p) rfl
        have k2 := cellRow hkw 2 (.int .i64 q) rfl
        have hkw2 := setBlock (setBlock hkw 1 (.int .i64 X)) 2 (.int .i64 Y)
        have n3 := frozenRow hkw2 3
        have k3 := cellRow hkw2 3 (.int .i64 (wnF l p q : Int)) rfl
        clear hW xq0 xq1 xq2
        refine mix_one (fun K hK _ => ?_) trivial; go_simp; refine hK _ _ trivial ?_; clear hK K
        refine mix_two (fun K hK => ?_); go_simp; refine hK _ _ ?_; clear hK K
        refine mix_two (fun K hK => ?_); go_simp; refine hK _ _ ?_; clear hK K
        refine mix_two (fun K hK => ?_); go_simp; refine hK _ _ ?_; clear hK K
        simp only [wpMix]
        have HK10 := Lib.hid (setBlock hkw2 3 (.int .i64 (wnF l X Y : Int)))
        have HS10 := Lib.hid ((((Upd.refl (fun k => k = kb) w8).setCell (p := ⟨kb, 1, none⟩) (.inl rfl) (.int .i64 X)).setCell (p := ⟨kb, 2, none⟩) (.inl rfl) (.int .i64 Y)).setCell (p := ⟨kb, 3, none⟩) (.inl rfl) (.int .i64 (wnF l X Y : Int)))
        clear n0 n1 k1 k2 n3 k3 hkw hkw2
        generalize (((w8.setCell ⟨kb, 1, none⟩ (.int .i64 X)).setCell ⟨kb, 2, none⟩ (.int .i64 Y)).setCell ⟨kb, 3, none⟩ (.int .i64 (wnF l X Y : Int))) = w12 at *
        have hk10 := HK10.out
        have n4 := frozenRow hk10 4
        have k4 := cellRow hk10 4 (.int .i64 (E : Int)) rfl
        clear hk10
        have HT11 : Hid (TR (w12.setCell ⟨kb, 4, none⟩ (.int .i64 ((E : Int) + 1))) kb (.slice am l.length cm) l X Y (E + 1)) := Lib.hid (by
          have hst := HS10.out.trans' ((Upd.refl (fun k => k = kb) w12).setCell (p := ⟨kb, 4, none⟩) (.inl rfl) (.int .i64 ((E : Int) + 1))) (fun i hi e => e)
          refine ⟨?_, own_kept HT8.out.mot hst (fun g hg h => HTW.out.mne (by rw [hg, h])), HTW.out.mne, HTW.out.okm, HNX.out.1, HNX.out.2.2.1, HTW.out.len, HTW.out.ne⟩
          exact setBlock HK10.out 4 (.int .i64 ((E : Int) + 1)))
        have HU11 : Hid (Upd (fun k => k = kb) w (w12.setCell ⟨kb, 4, none⟩ (.int .i64 ((E : Int) + 1)))) := Lib.hid ((HU8.out.trans' HS10.out (fun i hi e => e)).setCell (p := ⟨kb, 4, none⟩) (.inl rfl) _)
        have HB11 : Hid ((w12.setCell ⟨kb, 4, none⟩ (.int .i64 ((E : Int) + 1))).heap[w.heap.size]? = some (.cells #[.int .i64 m, .int .i64 e0] 25 (0, 0))) := Lib.hid (HS10.out.trans' ((Upd.refl (fun k => k = kb) w12).setCell (p := ⟨kb, 4, none⟩) (.inl rfl) (.int .i64 ((E : Int) + 1))) (fun i hi e => e) |>.heap HB8.out (by have := HKB.out; omega))
        clear HS10 HK10 HT8 HU8 HB8
        have hw1 : IntKind.i64.wrap ((E : Int) + 1) = (E : Int) + 1 := IntWalk.i64_in _ (by have := HE64.out; omega)
        have hw2 : wrap64 ((E : Int) + 1) = (E : Int) + 1 := IntWalk.wrap64_in _ (by have := HE64.out; omega)
        go_wp2_with fail
        go_roundg (cF l (wnF l X Y) + 1)
        case measure => have h1 := HNX.out.2.2.2.2; omega
        case rel => exact ⟨X, Y, j + 1, rfl, by rw [HEE2.out]; exact HT11, HU11, HB11, HLE2, HJ2, HJC2⟩

end Go.Proofs.Ytncnojhbdkhcjaa

/- NewTournament, and the next event of the reference. -/
namespace Go.Proofs.Ytncnojhbdkhcjaa
open Go.RowKit Go.Hw Go
set_option linter.unusedVariables false
set_option linter.unusedSimpArgs false
set_option maxRecDepth 100000 in
set_option maxHeartbeats 2000000 in
theorem newt_bad (l : List Mo) (S : Nat → Prop) (v : Value) (w : World) (hl2 : l.length ≤ 4611686018427387904) (hR : MoR S w v l) (hS : ∀ k, S k → k < w.heap.size) (hm : mB l = false) :
    Calls Try.prog 38 #[v] w fun e w' => e = .returned (.tuple #[.pointer none, .int .i64 1]) ∧ Ext w w' := by
  have HCF : Hid (∀ W, Ext w W → Calls Try.prog 51 #[v, .func (.func 46) #[] #[]] W fun e w' => e = .returned (.bool (!mB l)) ∧ Ext W w') := Lib.hid (fun W h => conf_x l S _ W (hR.ext h) hl2)
  have HRX := Lib.hid hR
  obtain ⟨a, cap, rfl⟩ := hR.shape
  have HZZ := Lib.hid zero_x
  have hrf := Lib.hid (Upd.refl (fun _ => False) w)
  rw [hm] at HCF
  clear hR hS
  go_enter Try.func38, Try.ntmps38
  go_wp2_with fail
  refine (HCF.out _ hrf.out).mono ?_
  rintro e w4 ⟨rfl, hw4⟩
  have H4 := Lib.hid hw4
  clear hw4
  go_wp2_with fail
  go_ret2
  exact ⟨rfl, H4.out⟩
set_option maxRecDepth 100000 in
set_option maxHeartbeats 2000000 in
theorem newt_empty (l : List Mo) (S : Nat → Prop) (v : Value) (w : World) (hl2 : l.length ≤ 4611686018427387904) (hR : MoR S w v l) (hS : ∀ k, S k → k < w.heap.size) (hm : mB l = true) (hl : l.length = 0) :
    Calls Try.prog 38 #[v] w fun e w' => e = .returned (.tuple #[.pointer none, .int .i64 14]) ∧ Ext w w' := by
  have HCF : Hid (∀ W, Ext w W → Calls Try.prog 51 #[v, .func (.func 46) #[] #[]] W fun e w' => e = .returned (.bool (!mB l)) ∧ Ext W w') := Lib.hid (fun W h => conf_x l S _ W (hR.ext h) hl2)
  have HRX := Lib.hid hR
  obtain ⟨a, cap, rfl⟩ := hR.shape
  have HZZ := Lib.hid zero_x
  have hrf := Lib.hid (Upd.refl (fun _ => False) w)
  rw [hm] at HCF
  have t0 : (l.length : Int) = 0 := by omega
  obtain ⟨N, hN⟩ : ∃ N, l.length = N := ⟨_, rfl⟩
  rw [hN] at hl
  subst hl
  simp only [hN] at *
  clear hR hS
  go_enter Try.func38, Try.ntmps38
  go_wp2_with fail
  refine (HCF.out _ hrf.out).mono ?_
  rintro e w4 ⟨rfl, hw4⟩
  have H4 := Lib.hid hw4
  clear hw4
  go_wp2_with fail
  go_ret2
  exact ⟨rfl, H4.out⟩
set_option maxRecDepth 100000 in
set_option maxHeartbeats 2000000 in
theorem newt_full (l : List Mo) (S : Nat → Prop) (v : Value) (w : World) (hl2 : l.length ≤ 4611686018427387904) (hR : MoR S w v l) (hS : ∀ k, S k → k < w.heap.size) (hm : mB l = true) (hl : 64 < l.length) :
    Calls Try.prog 38 #[v] w fun e w' => e = .returned (.tuple #[.pointer none, .int .i64 4]) ∧ Ext w w' := by
  have HCF : Hid (∀ W, Ext w W → Calls Try.prog 51 #[v, .func (.func 46) #[] #[]] W fun e w' => e = .returned (.bool (!mB l)) ∧ Ext W w') := Lib.hid (fun W h => conf_x l S _ W (hR.ext h) hl2)
  have HRX := Lib.hid hR
  obtain ⟨a, cap, rfl⟩ := hR.shape
  have HZZ := Lib.hid zero_x
  have hrf := Lib.hid (Upd.refl (fun _ => False) w)
  rw [hm] at HCF
  have t0 : ((l.length : Int) == 0) = false := beq_eq_false_iff_ne.2 (by omega)
  have t0' : decide ((l.length : Int) = 0) = false := decide_eq_false (by omega)
  have t1 : decide ((64 : Int) < (l.length : Int)) = true := decide_eq_true (by omega)
  have t1' : decide (64 < l.length) = true := decide_eq_true (by omega)
  clear hR hS
  go_enter Try.func38, Try.ntmps38
  go_wp2_with fail
  refine (HCF.out _ hrf.out).mono ?_
  rintro e w4 ⟨rfl, hw4⟩
  have H4 := Lib.hid hw4
  clear hw4
  go_wp2_with fail
  go_ret2
  exact ⟨rfl, H4.out⟩
set_option maxRecDepth 100000 in
set_option maxHeartbeats 2000000 in
theorem newt_ok (l : List Mo) (S : Nat → Prop) (v : Value) (w : World) (hl2 : l.length ≤ 4611686018427387904) (hR : MoR S w v l) (hS : ∀ k, S k → k < w.heap.size) (hm : mB l = true) (hl : l.length ≤ 64) (hl0 : 0 < l.length) :
    Calls Try.prog 38 #[v] w fun e w' => ∃ kb mv, e = .returned (.tuple #[.pointer (some ⟨kb, 0, none⟩), .int .i64 0]) ∧ TR w' kb mv l 0 1 0 ∧ w.heap.size ≤ kb ∧ (∀ g, mv.ownBlock = some g → w.heap.size ≤ g) ∧ Ext w w' := by
  have HCF : Hid (∀ W, Ext w W → Calls Try.prog 51 #[v, .func (.func 46) #[] #[]] W fun e w' => e = .returned (.bool (!mB l)) ∧ Ext W w') := Lib.hid (fun W h => conf_x l S _ W (hR.ext h) hl2)
  have HRX := Lib.hid hR
  obtain ⟨a, cap, rfl⟩ := hR.shape
  have HZZ := Lib.hid zero_x
  have hrf := Lib.hid (Upd.refl (fun _ => False) w)
  rw [hm] at HCF
  have t0 : ((l.length : Int) == 0) = false := beq_eq_false_iff_ne.2 (by omega)
  have t0' : decide ((l.length : Int) = 0) = false := decide_eq_false (by omega)
  have t1 : decide ((64 : Int) < (l.length : Int)) = false := decide_eq_false (by omega)
  have t1' : decide (64 < l.length) = false := decide_eq_false (by omega)
  have HCL := Lib.hid (fun W (hW : Ext w W) => cloneM_x S _ l.length _ W (hR.ext hW) (mCells_one l) (by omega))
  have HLA := Lib.hid (fun W (hW : Ext w W) => last_x l 0 1 S _ W hl0 (by omega) hm (by decide) (hR.ext hW) (fun k hk => Nat.lt_of_lt_of_le (hS k hk) hW.size))
  have HM := Lib.hid (And.intro hm (And.intro hl hl0))
  clear hR hS hm hl hl0
  go_enter Try.func38, Try.ntmps38
  go_wp2_with fail
  refine (HCF.out _ hrf.out).mono ?_
  rintro e w4 ⟨rfl, hw4⟩
  have H4 := Lib.hid hw4
  clear hw4
  go_wp2_with fail
  refine (HCL.out _ H4.out).mono ?_
  rintro e w6 ⟨r, rfl, hO, hw6⟩
  have H6 := Lib.hid (H4.out.ext hw6)
  obtain ⟨a6, c6, rfl⟩ := own_shape hO
  have HM6 := Lib.hid (own_base hO H4.out.size)
  clear hO hw6
  go_wp2_with fail
  refine (HZZ.out _).mono ?_
  rintro e w7 ⟨rfl, hw7⟩
  have H7 := Lib.hid (H6.out.ext hw7)
  have HM7 := Lib.hid (own_kept HM6.out hw7 (fun _ _ h => h))
  clear hw7
  go_wp2_with fail
  refine (HZZ.out _).mono ?_
  rintro e w8 ⟨rfl, hw8⟩
  have H8 := Lib.hid (H7.out.ext hw8)
  have HM8 := Lib.hid (own_kept HM7.out hw8 (fun _ _ h => h))
  clear hw8
  go_wp2_with fail
  refine (HLA.out _ H8.out).mono ?_
  rintro e w9 ⟨rfl, hw9⟩
  have H9 := Lib.hid (H8.out.ext hw9)
  have HM9 := Lib.hid (own_kept HM8.out hw9 (fun _ _ h => h))
  clear hw9
  go_wp2_with fail
  go_ret2
  have hU := (Upd.refl (fun _ => False) w9).alloc (.cells #[.slice a6 l.length c6, .int .i64 0, .int .i64 1, .int .i64 (wnF l 0 1), .int .i64 0] 108)
  refine ⟨w9.heap.size, _, rfl, ⟨alloc0 _ _, own_base (own_kept HM9.out hU (fun _ _ h => h)) (Nat.zero_le _), fun e => ?_, HM.out.1, by decide, by decide, HM.out.2.1, HM.out.2.2⟩, H9.out.size, fun g hg => (HM9.out.lt g hg).1, H9.out.ext hU⟩
  have := (HM9.out.lt _ e).2
  omega

/-- the next event within t: whether there is one, and its time (else t) -/
def evN (m e : Int) : Option (Int × Int) → Bool × Int × Int
  | none => (false, m, e)
  | some x => if m * x.2 < x.1 * e then (false, m, e) else (true, x.1, x.2)
theorem evN_no {l : List Mo} {n d m e : Int} {w k : Nat} (h : cand l n d w k = false) : evN m e (ovP l n d w (k + 1)) = evN m e (ovP l n d w k) := by
  rw [ovP_succ]
  unfold ovStep
  rw [h, if_neg (by decide)]
theorem evN_yes {l : List Mo} {n d m e X Y : Int} {w k : Nat} (hm : mB l = true) (hv : vfB m e = true) (h : cand l n d w k = true) (hX : mt l w k = (X, Y)) :
    evN m e (ovP l n d w (k + 1)) = if X * (evN m e (ovP l n d w k)).2.2 ≤ (evN m e (ovP l n d w k)).2.1 * Y then (true, X, Y) else evN m e (ovP l n d w k) := by
  have hs := (ovP_spec n d w hm k).2
  rw [ovP_succ]
  obtain ⟨_, _, hvk, hpk⟩ := cand_ok hm h
  rw [hX] at hvk hpk
  simp only at hvk hpk
  obtain ⟨_, he, _⟩ := vf_bd hv
  generalize ovP l n d w k = A at *
  unfold ovStep
  rw [h, if_pos rfl, hX]
  cases A with
  | none =>
    simp only [evN]
    by_cases h1 : m * Y < X * e
    · rw [if_pos h1]; exact (if_neg (show ¬ X * e ≤ m * Y by omega)).symm
    · rw [if_neg h1]; exact (if_pos (show X * e ≤ m * Y by omega)).symm
  | some b =>
    obtain ⟨b0, b1⟩ := b
    obtain ⟨⟨i, hi, hci, hbi⟩, _⟩ := hs _ rfl
    obtain ⟨_, _, hvb, hpb⟩ := cand_ok hm hci
    rw [← hbi] at hvb hpb
    simp only at hvb hpb
    simp only [evN]
    by_cases h1 : X * b1 < b0 * Y
    · rw [if_pos h1]
      simp only
      by_cases h2 : m * b1 < b0 * e
      · rw [if_pos h2]
        simp only
        by_cases h3 : m * Y < X * e
        · rw [if_pos h3, if_neg (show ¬ X * e ≤ m * Y by omega)]
        · rw [if_neg h3, if_pos (show X * e ≤ m * Y by omega)]
      · rw [if_neg h2]
        simp only
        have h4 := (fr_lt_trans (a := X) (b := Y) (c := b0) (d := b1) (e := m) (f := e) hpk hpb (by omega) (by omega) (by omega)).1
        rw [if_neg (show ¬ m * Y < X * e by omega), if_pos (show X * b1 ≤ b0 * Y by omega)]
    · rw [if_neg h1]
      simp only
      by_cases h2 : m * b1 < b0 * e
      · rw [if_pos h2]
        simp only
        have h4 := fr_lt_trans (a := m) (b := e) (c := b0) (d := b1) (e := X) (f := Y) (by omega) hpb hpk (by omega) (by omega)
        rw [if_neg (show ¬ X * e ≤ m * Y by intro h5; have := (h4.2 (by omega)).1; omega)]
      · rw [if_neg h2]
        simp only
        by_cases h5 : X * b1 = b0 * Y
        · obtain ⟨e1, e2⟩ := low_uniq hvk hvb h5
          rw [if_pos (show X * b1 ≤ b0 * Y by omega), e1, e2]
        · rw [if_neg (show ¬ X * b1 ≤ b0 * Y by omega)]
theorem evN_vf {l : List Mo} {n d m e : Int} {w k : Nat} (hm : mB l = true) (hv : vfB m e = true) : vfB (evN m e (ovP l n d w k)).2.1 (evN m e (ovP l n d w k)).2.2 = true := by
  have hs := (ovP_spec n d w hm k).2
  generalize ovP l n d w k = A at *
  cases A with
  | none => exact hv
  | some b =>
    obtain ⟨⟨i, hi, hci, hbi⟩, _⟩ := hs _ rfl
    have hvb := (cand_ok hm hci).2.2.1
    rw [← hbi] at hvb
    simp only [evN]
    split
    · exact hv
    · exact hvb

end Go.Proofs.Ytncnojhbdkhcjaa

/- Events of the reference. -/
namespace Go.Proofs.Ytncnojhbdkhcjaa
open Go.RowKit Go.Hw Go
set_option linter.unusedVariables false
set_option linter.unusedSimpArgs false

theorem evN_false {l : List Mo} {m e p q P Q : Int} {f w : Nat} (h : evN m e (ovF l p q w) = (false, P, Q)) : evG l m e f p q w = 0 := by
  cases f with
  | zero => rfl
  | succ f =>
    unfold evG
    cases hc : ovF l p q w with
    | none => rfl
    | some x =>
      rw [hc] at h
      simp only [evN] at h
      split at h
      · rename_i hlt
        exact if_pos hlt
      · injection h with h1 h2
        cases h1
theorem evN_true {m e P Q : Int} {O : Option (Int × Int)} (h : evN m e O = (true, P, Q)) : O = some (P, Q) ∧ ¬ m * Q < P * e := by
  cases O with
  | none => simp only [evN] at h; injection h with h1 h2; cases h1
  | some x =>
    obtain ⟨a, b⟩ := x
    simp only [evN] at h
    split at h
    · injection h with h1 h2; cases h1
    · rename_i hlt
      injection h with h1 h2
      injection h2 with h2 h3
      subst h2 h3
      exact ⟨rfl, hlt⟩
theorem cmp_le (a b : Int) : decide (Lib.compareInt a b ≤ 0) = decide (a ≤ b) := by
  unfold Lib.compareInt
  split
  · rw [decide_eq_true (show (-1 : Int) ≤ 0 by omega), decide_eq_true (show a ≤ b by omega)]
  · split
    · rw [decide_eq_false (show ¬ (1 : Int) ≤ 0 by omega), decide_eq_false (show ¬ a ≤ b by omega)]
    · rw [decide_eq_true (show (0 : Int) ≤ 0 by omega), decide_eq_true (show a ≤ b by omega)]
set_option maxRecDepth 100000 in
set_option maxHeartbeats 2000000 in
theorem revents_x (l : List Mo) (m e0 : Int) (S : Nat → Prop) (v : Value) (w : World) (hl : 0 < l.length) (hl2 : l.length ≤ 64) (hm : mB l = true) (hv : vfB m e0 = true) (hn : 0 ≤ m) (hR : MoR S w v l) (hS : ∀ k, S k → k < w.heap.size) :
    Calls Try.prog 42 #[v, .agg #[.int .i64 m, .int .i64 e0]] w fun e w' => e = .returned (.int .i64 (evG l m e0 l.length 0 1 (wnF l 0 1) : Int)) ∧ Ext w w' := by
  have HRW := Lib.hid (fun W (hW : Ext w W) p q (hpq : vfB p q = true) => rwinner_x l p q S v W hl (by omega) hm hpq (hR.ext hW) (fun k hk => Nat.lt_of_lt_of_le (hS k hk) hW.size))
  have HRR := Lib.hid (And.intro hR hS)
  obtain ⟨a, cap, rfl⟩ := hR.shape
  obtain ⟨gm, off, rfl⟩ := hR.at_ hl
  have HM := Lib.hid hm
  have HV := Lib.hid (And.intro hv hn)
  have HLL := Lib.hid (And.intro hl hl2)
  have HE := Lib.hid (vf_bd hv).2.1.1
  clear hR hS hm hv hn hl hl2
  have HZ := Lib.hid ((((Upd.refl (fun _ => False) w).alloc (.cells #[.int .i64 m, .int .i64 e0] 25)).alloc (.cells #[.int .i64 0, .int .i64 1] 25)).alloc (.cells #[.int .i64 0, .int .i64 1] 25))
  have hb0 := allocOld (allocOld (alloc0 w (.cells #[.int .i64 m, .int .i64 e0] 25)) (.cells #[.int .i64 0, .int .i64 1] 25)) (.cells #[.int .i64 0, .int .i64 1] 25)
  have hb1 := allocOld (alloc_at (w.alloc (.cells #[.int .i64 m, .int .i64 e0] 25)) (.cells #[.int .i64 0, .int .i64 1] 25) (n := w.heap.size + 1) (by simp)) (.cells #[.int .i64 0, .int .i64 1] 25)
  have hb2 := alloc_at ((w.alloc (.cells #[.int .i64 m, .int .i64 e0] 25)).alloc (.cells #[.int .i64 0, .int .i64 1] 25)) (.cells #[.int .i64 0, .int .i64 1] 25) (n := w.heap.size + 2) (by simp)
  have HL : Hid ((((w.alloc (.cells #[.int .i64 m, .int .i64 e0] 25)).alloc (.cells #[.int .i64 0, .int .i64 1] 25)).alloc (.cells #[.int .i64 0, .int .i64 1] 25)).heap.size = w.heap.size + 3) := Lib.hid (by simp)
  have HX : Hid (∀ W, Ext (((w.alloc (.cells #[.int .i64 m, .int .i64 e0] 25)).alloc (.cells #[.int .i64 0, .int .i64 1] 25)).alloc (.cells #[.int .i64 0, .int .i64 1] 25)) W → W.cell? ⟨w.heap.size, 0, none⟩ = some (.int .i64 m) ∧ W.cell? ⟨w.heap.size, 1, none⟩ = some (.int .i64 e0) ∧ W.cell? ⟨w.heap.size + 1, 0, none⟩ = some (.int .i64 0) ∧ W.cell? ⟨w.heap.size + 1, 1, none⟩ = some (.int .i64 1) ∧ W.cell? ⟨w.heap.size + 2, 0, none⟩ = some (.int .i64 0) ∧ W.cell? ⟨w.heap.size + 2, 1, none⟩ = some (.int .i64 1)) := Lib.hid (fun W hW => ⟨cellRow (hW.heap hb0 (fun h => h)) 0 _ rfl, cellRow (hW.heap hb0 (fun h => h)) 1 _ rfl, cellRow (hW.heap hb1 (fun h => h)) 0 _ rfl, cellRow (hW.heap hb1 (fun h => h)) 1 _ rfl, cellRow (hW.heap hb2 (fun h => h)) 0 _ rfl, cellRow (hW.heap hb2 (fun h => h)) 1 _ rfl⟩)
  clear hb0 hb1 hb2
  have hle1 : w.heap.size ≤ w.heap.size + 1 := by omega
  have hle2 : w.heap.size ≤ w.heap.size + 1 + 1 := by omega
  obtain ⟨k00, k01, k10, k11, k20, k21⟩ := HX.out _ (Upd.refl _ _)
  have HB0 := Lib.hid (allocOld (allocOld (alloc0 w (.cells #[.int .i64 m, .int .i64 e0] 25)) (.cells #[.int .i64 0, .int .i64 1] 25)) (.cells #[.int .i64 0, .int .i64 1] 25))
  have HB2 := Lib.hid (alloc_at ((w.alloc (.cells #[.int .i64 m, .int .i64 e0] 25)).alloc (.cells #[.int .i64 0, .int .i64 1] 25)) (.cells #[.int .i64 0, .int .i64 1] 25) (n := w.heap.size + 2) (by simp))
  go_enter Try.func42, Try.ntmps42
  go_wp2_with fail
  refine (HRW.out _ HZ.out 0 1 (by decide)).mono ?_
  rintro e w4 ⟨rfl, hw4⟩
  have H4 := Lib.hid (HZ.out.ext hw4)
  have HB04 := Lib.hid (hw4.heap HB0.out (fun h => h))
  have HB24 := Lib.hid (hw4.heap HB2.out (fun h => h))
  clear hw4 k00 k01 k10 k11 k20 k21 HX HB0 HB2 HZ
  go_wp2_with fail
  go_loopg [6, 8] (cF l (wnF l 0 1) + 1) (fun gk nv wv wr => ∃ (p q : Int) (j : Nat), nv = .int .i64 (j : Int) ∧ wv = .int .i64 (wnF l p q : Int) ∧ gk = cF l (wnF l p q) + 1 ∧ Hid (vfB p q = true ∧ 0 ≤ p) ∧ Hid (Ext w wr) ∧ Hid (wr.heap[w.heap.size]? = some (.cells #[.int .i64 m, .int .i64 e0] 25 (0, 0))) ∧ Hid (wr.heap[w.heap.size + 2]? = some (.cells #[.int .i64 p, .int .i64 q] 25 (0, 0))) ∧ Hid (p * e0 ≤ m * q) ∧ Hid (evG l m e0 l.length 0 1 (wnF l 0 1) = j + evG l m e0 l.length p q (wnF l p q)) ∧ Hid (j + cF l (wnF l p q) ≤ l.length) ∧ Hid (w.heap.size + 2 < wr.heap.size))
  case atStart => exact ⟨0, 1, 0, rfl, rfl, rfl, Lib.hid ⟨by decide, by decide⟩, H4, HB04, HB24, Lib.hid (by have := HV.out.2; omega), Lib.hid (Nat.zero_add _).symm, Lib.hid (by have := cF_le (l := l) (wnF_lt 0 1 HLL.out.1); omega), Lib.hid (Array.getElem?_eq_some_iff.1 HB24.out).1⟩
  case round =>
    clear H4 HB04 HB24
    obtain ⟨p, q, j, rfl, rfl, rfl, HPQ, HU, HB0, HB2, HLE, HJ, HJC, HSZ⟩ := hrel
    have HQ := Lib.hid (vf_bd HPQ.out.1).2.1.1
    have hb0 := HB0.out
    have s0 := cellRow hb0 0 (.int .i64 m) rfl
    have s1 := cellRow hb0 1 (.int .i64 e0) rfl
    have HU5 := Lib.hid (HU.out.alloc (.cells #[.int .i64 m, .int .i64 e0] 25))
    have HB05 := Lib.hid (allocOld HB0.out (.cells #[.int .i64 m, .int .i64 e0] 25))
    have HB25 := Lib.hid (allocOld HB2.out (.cells #[.int .i64 m, .int .i64 e0] 25))
    have HB35 := Lib.hid (alloc0 wr (.cells #[.int .i64 m, .int .i64 e0] 25))
    clear hb0
    go_wp2_with fail
    obtain ⟨wq, hwq⟩ : ∃ wa, wa = wr := ⟨_, rfl⟩
    subst hwq
    generalize (wq.alloc (.cells #[.int .i64 m, .int .i64 e0] 25)) = wn at *
    have hwl := wnF_lt (l := l) p q HLL.out.1
    generalize hW : wnF l p q = W at *
    have HWN := Lib.hid hW
    have HWL := Lib.hid hwl
    clear hW hwl s0 s1
    have j0 : (0 : Int) ≤ (W : Int) := by omega
    have j1 : (W : Int) < (l.length : Int) := by have := HWL.out; omega
    go_loopg [10, 11] l.length (fun gk fv iv wr => ∃ (k : Nat) (F : Bool) (P Q : Int), iv = .int .i64 (k : Int) ∧ gk = l.length - k ∧ k ≤ l.length ∧ fv = .bool F ∧ Hid (evN m e0 (ovP l p q W k) = (F, P, Q)) ∧ Hid (Upd (fun j => j = wq.heap.size) wn wr) ∧ Hid (wr.heap[wq.heap.size]? = some (.cells #[.int .i64 P, .int .i64 Q] 25 (0, 0))))
    case atStart => exact ⟨0, false, m, e0, rfl, rfl, Nat.zero_le _, rfl, Lib.hid rfl, Lib.hid (Upd.refl _ _), HB35⟩
    case round =>
      clear HB35
      obtain ⟨k, F, P, Q, rfl, rfl, hk, rfl, HN, HUI, HBN⟩ := hrel
      have HUR : Hid (Ext w wr) := Lib.hid (HU5.out.trans' HUI.out (fun i hi e => by have := HSZ.out; omega))
      have HB06 := Lib.hid (HUI.out.heap HB05.out (by have := HSZ.out; omega))
      have HB26 := Lib.hid (HUI.out.heap HB25.out (by have := HSZ.out; omega))
      by_cases hlk : k < l.length
      · have hmo := HRR.out.1.ext HUR.out
        obtain ⟨p0, p1⟩ := hmo.cells HWL.out
        obtain ⟨q0, q1⟩ := hmo.cells hlk
        have hl64 := HLL.out.2
        have z0 : (0 : Int) ≤ (k : Int) := by omega
        have z1 : (k : Int) < (l.length : Int) := by omega
        have HMB := Lib.hid (And.intro (mB_at HM.out W) (mB_at HM.out k))
        have y0 := cellRow HB26.out 0 (.int .i64 p) rfl
        have y1 := cellRow HB26.out 1 (.int .i64 q) rfl
        obtain ⟨u0, hu0⟩ : ∃ u, (mg l W).1 = u := ⟨_, rfl⟩
        obtain ⟨u1, hu1⟩ : ∃ u, (mg l W).2 = u := ⟨_, rfl⟩
        obtain ⟨v0, hv0⟩ : ∃ u, (mg l k).1 = u := ⟨_, rfl⟩
        obtain ⟨v1, hv1⟩ : ∃ u, (mg l k).2 = u := ⟨_, rfl⟩
        rw [hu0] at p0
        rw [hu1] at p1
        rw [hv0] at q0
        rw [hv1] at q1
        have HUU := Lib.hid (And.intro (And.intro hu0 hu1) (And.intro hv0 hv1))
        clear hu0 hu1 hv0 hv1 hmo
        have HVN : Hid (vfB P Q = true) := Lib.hid (by have := evN_vf (n := p) (d := q) (w := W) (k := k) HM.out HV.out.1; rw [HN.out] at this; exact this)
        have HQN := Lib.hid (evN_no (l := l) (n := p) (d := q) (m := m) (e := e0) (w := W) (k := k))
        have HQY := Lib.hid (fun X Y => evN_yes (l := l) (n := p) (d := q) (m := m) (e := e0) (X := X) (Y := Y) (w := W) (k := k) HM.out HV.out.1)
        rw [HN.out] at HQN HQY
        have hgn := HSZ.out
        have HNS : Hid (wq.heap.size < wr.heap.size) := Lib.hid (Array.getElem?_eq_some_iff.1 HBN.out).1
        cases hC : meetB (mg l W) (mg l k) p q
        · have HMT := Lib.hid (fun W' => rmeet_no (mg l W) (mg l k) p q W' HMB.out.1 HMB.out.2 HPQ.out.1 hC)
          rw [HUU.out.1.1, HUU.out.1.2, HUU.out.2.1, HUU.out.2.2] at HMT
          have HCC := Lib.hid hC
          clear hC
          go_wp2_with fail
          have xp0 := fun x : XW wr => x.ext.cell p0 (fun h => h)
          have xp1 := fun x : XW wr => x.ext.cell p1 (fun h => h)
          have xq0 := fun x : XW wr => x.ext.cell q0 (fun h => h)
          have xq1 := fun x : XW wr => x.ext.cell q1 (fun h => h)
          have xy0 := fun x : XW wr => x.ext.cell y0 (fun h => h)
          have xy1 := fun x : XW wr => x.ext.cell y1 (fun h => h)
          refine wp_region_parF (α := Nat) 14 [12] 15 [(14, 1), (15, 2)] [[], [], [0, 1], [0, 1, 2], [], [], [4, 5], [4, 5, 6], [], [0, 1, 2, 3, 4, 5, 6, 7, 8], [0, 1, 2, 3, 4, 5, 6, 7, 8, 9], [0, 1, 2, 3, 4, 5, 6, 7, 8, 9, 10], [0, 1, 2, 3, 4, 5, 6, 7, 8, 9, 10], [], [0, 1, 2, 3, 4, 5, 6, 7, 8, 9, 10, 11, 13], [0, 1, 2, 3, 4, 5, 6, 7, 8, 9, 10, 11, 12, 13, 14]]
            [none, none, none, none, none, none, none, none, none, some (annVal (.tuple #[.agg #[.int .i64 0, .int .i64 0], .int .i64 12])), none, none, none, some (annBlk (fun g => .pointer (some ⟨g, 0, none⟩)) (fun g => g) wr.heap.size (.cells #[.int .i64 0, .int .i64 0] 25))]
            [false, false, false, false, false, false, false, false, false, true, false, false, false, true] (by kernel_rfl) (by kernel_rfl) rfl (fun _ _ d _ _ h => by cases d <;> exact h) ?_
          simp only [List.take_succ_cons, List.take_zero, pickO, List.getElem?_cons_zero, List.getElem?_cons_succ]
          refine can_pure0 rfl (fun K hK => ?_); go_simp; refine hK _ ?_; clear hK K
          refine can_pure0 rfl (fun K hK => ?_); go_simp; refine hK _ ?_; clear hK K
          refine can_pure0 rfl (fun K hK => ?_); go_simp; refine hK _ ?_; clear hK K
          refine can_pure0 rfl (fun K hK => ?_); go_simp; refine hK _ ?_; clear hK K
          refine can_pure0 rfl (fun K hK => ?_); go_simp; refine hK _ ?_; clear hK K
          refine can_pure0 rfl (fun K hK => ?_); go_simp; refine hK _ ?_; clear hK K
          refine can_pure0 rfl (fun K hK => ?_); go_simp; refine hK _ ?_; clear hK K
          refine can_pure0 rfl (fun K hK => ?_); go_simp; refine hK _ ?_; clear hK K
          refine can_pure0 rfl (fun K hK => ?_); go_simp; refine hK _ ?_; clear hK K
          refine can_mem _ rfl (by go_simp) (fun W hW hG K hK => ?_) (fun K x9 hK => ?_)
          · go_simp
            refine (HMT.out W).mono ?_
            rintro e w' ⟨rfl, h⟩
            exact hK default w' h trivial
          refine hK _ ?_; clear hK K
          dsimp only [annVal]
          refine can_pure0 rfl (fun K hK => ?_); go_simp; refine hK _ ?_; clear hK K
          refine can_pure0 rfl (fun K hK => ?_); go_simp; refine hK _ ?_; clear hK K
          refine can_pure0 rfl (fun K hK => ?_); go_simp; refine hK _ ?_; clear hK K
          refine can_mem _ rfl (by go_simp) (fun W hW hG K hK => ?_) (fun K g9 hK => ?_)
          · go_simp
            exact hK W.heap.size _ ((Upd.refl _ W).alloc _) ⟨hW.size, alloc0 _ _⟩
          refine hK _ ?_; clear hK K
          dsimp only [annBlk]
          refine can_end (fun w8 hW hG => ?_)
          obtain ⟨hb9, hg9⟩ := hG _ (List.mem_append_right _ (List.mem_singleton.2 rfl))
          clear hG
          have H8 : Hid (Ext wr w8) := Lib.hid (hW)
          have m0 := frozenRow hg9 0
          have m1 := frozenRow hg9 1
          have cc0 := cellRow hg9 0 (.int .i64 0) rfl
          have cc1 := cellRow hg9 1 (.int .i64 0) rfl
          have HG9 := Lib.hid (And.intro hb9 hg9)
          clear hW hg9 hb9
          refine mix_one (fun K hK _ => ?_) trivial; go_simp; refine hK _ _ trivial ?_; clear hK K
          refine mix_two (fun K hK => ?_); go_simp; refine hK _ _ ?_; clear hK K
          simp only [wpMix]
          clear xp0 xp1 xq0 xq1 xy0 xy1 p0 p1 q0 q1 y0 y1
          have hg10 := Nat.lt_of_lt_of_le HNS.out HG9.out.1
          have HU10 : Hid (Upd (fun j => j = wq.heap.size) wn ((w8.setCell ⟨g9, 0, none⟩ (.int .i64 0)).setCell ⟨g9, 1, none⟩ (.int .i64 0))) := Lib.hid (((HUI.out.ext H8.out).setCell (p := ⟨g9, 0, none⟩) (.inr (Nat.le_trans HUI.out.size HG9.out.1)) _).setCell (p := ⟨g9, 1, none⟩) (.inr (Nat.le_trans HUI.out.size HG9.out.1)) _)
          have HBY := Lib.hid ((((Upd.refl (fun k => k = g9) w8).setCell (p := ⟨g9, 0, none⟩) (.inl rfl) (.int .i64 0)).setCell (p := ⟨g9, 1, none⟩) (.inl rfl) (.int .i64 0)).heap (H8.out.heap HBN.out (fun h => h)) (by omega))
          have HUR10 : Hid (Ext w ((w8.setCell ⟨g9, 0, none⟩ (.int .i64 0)).setCell ⟨g9, 1, none⟩ (.int .i64 0))) := Lib.hid (((HUR.out.ext H8.out).setNew (Nat.le_trans HUR.out.size HG9.out.1) _).setNew (Nat.le_trans HUR.out.size HG9.out.1) _)
          have hb9 := setBlock (setBlock HG9.out.2 0 (.int .i64 0)) 1 (.int .i64 0)
          have t0 := cellRow hb9 0 (.int .i64 0) rfl
          have t1 := cellRow hb9 1 (.int .i64 0) rfl
          clear hb9 m0 m1 cc0 cc1 HG9 H8 hg10 HUI HBN
          generalize ((w8.setCell ⟨g9, 0, none⟩ (.int .i64 0)).setCell ⟨g9, 1, none⟩ (.int .i64 0)) = w10 at *
          have hmo := HRR.out.1.ext HUR10.out
          have p1 := (hmo.cells HWL.out).2
          have q1 := (hmo.cells hlk).2
          rw [HUU.out.1.2] at p1
          rw [HUU.out.2.2] at q1
          have y0 := cellRow HBY.out 0 (.int .i64 P) rfl
          have y1 := cellRow HBY.out 1 (.int .i64 Q) rfl
          have xt0 := fun x : XW w10 => x.ext.cell t0 (fun h => h)
          have xt1 := fun x : XW w10 => x.ext.cell t1 (fun h => h)
          have xy0 := fun x : XW w10 => x.ext.cell y0 (fun h => h)
          have xy1 := fun x : XW w10 => x.ext.cell y1 (fun h => h)
          have xp1 := fun x : XW w10 => x.ext.cell p1 (fun h => h)
          have xq1 := fun x : XW w10 => x.ext.cell q1 (fun h => h)
          have hrfs := Upd.refl (fun _ => False) w10
          clear hmo p1 q1 y0 y1 t0 t1
          have HN2 := Lib.hid (HQN.out (by unfold cand; rw [HCC.out, Bool.and_false]))
          go_wp2_with fail
          refine wp_region_ext w10 (by assumption) (by kernel_rfl) (by kernel_rfl) ?_
          repeat (first | go_big_quiet_skip | (go_big_quiet_want; go_big_quiet_op; first | go_big_quiet_on | (apply Exists.intro; refine ⟨fun x => ?_, ?_⟩; (fail); go_big_quiet_on)))
          refine wpQuiet_nil ?_
          rintro w6 ⟨⟨_, hyw6⟩, rfl⟩
          try dsimp only
          clear xt0 xt1 xy0 xy1 xp1 xq1
          go_wp2_with fail
          go_roundg (l.length - (k + 1))
          case measure => omega
          case rel => exact ⟨k + 1, F, P, Q, by go_num, rfl, by omega, rfl, HN2, Lib.hid (HU10.out.ext hyw6), Lib.hid (hyw6.heap HBY.out (fun h => h))⟩
        · have HMT := Lib.hid (fun W' => rmeet_yes (mg l W) (mg l k) p q W' HMB.out.1 HMB.out.2 HPQ.out.1 hC)
          rw [HUU.out.1.1, HUU.out.1.2, HUU.out.2.1, HUU.out.2.2] at HMT
          obtain ⟨X, hX⟩ : ∃ u, mtN (mg l W) (mg l k) = u := ⟨_, rfl⟩
          obtain ⟨Y, hY⟩ : ∃ u, mtD (mg l W) (mg l k) = u := ⟨_, rfl⟩
          rw [hX, hY] at HMT
          have HXY := Lib.hid (And.intro hX hY)
          clear hX hY
          have HCC := Lib.hid hC
          clear hC
          go_wp2_with fail
          have xp0 := fun x : XW wr => x.ext.cell p0 (fun h => h)
          have xp1 := fun x : XW wr => x.ext.cell p1 (fun h => h)
          have xq0 := fun x : XW wr => x.ext.cell q0 (fun h => h)
          have xq1 := fun x : XW wr => x.ext.cell q1 (fun h => h)
          have xy0 := fun x : XW wr => x.ext.cell y0 (fun h => h)
          have xy1 := fun x : XW wr => x.ext.cell y1 (fun h => h)
          refine wp_region_parF (α := Nat) 14 [12] 15 [(14, 1), (15, 2)] [[], [], [0, 1], [0, 1, 2], [], [], [4, 5], [4, 5, 6], [], [0, 1, 2, 3, 4, 5, 6, 7, 8], [0, 1, 2, 3, 4, 5, 6, 7, 8, 9], [0, 1, 2, 3, 4, 5, 6, 7, 8, 9, 10], [0, 1, 2, 3, 4, 5, 6, 7, 8, 9, 10], [], [0, 1, 2, 3, 4, 5, 6, 7, 8, 9, 10, 11, 13], [0, 1, 2, 3, 4, 5, 6, 7, 8, 9, 10, 11, 12, 13, 14]]
            [none, none, none, none, none, none, none, none, none, some (annVal (.tuple #[.agg #[.int .i64 X, .int .i64 Y], .int .i64 0])), none, none, none, some (annBlk (fun g => .pointer (some ⟨g, 0, none⟩)) (fun g => g) wr.heap.size (.cells #[.int .i64 0, .int .i64 0] 25))]
            [false, false, false, false, false, false, false, false, false, true, false, false, false, true] (by kernel_rfl) (by kernel_rfl) rfl (fun _ _ d _ _ h => by cases d <;> exact h) ?_
          simp only [List.take_succ_cons, List.take_zero, pickO, List.getElem?_cons_zero, List.getElem?_cons_succ]
          refine can_pure0 rfl (fun K hK => ?_); go_simp; refine hK _ ?_; clear hK K
          refine can_pure0 rfl (fun K hK => ?_); go_simp; refine hK _ ?_; clear hK K
          refine can_pure0 rfl (fun K hK => ?_); go_simp; refine hK _ ?_; clear hK K
          refine can_pure0 rfl (fun K hK => ?_); go_simp; refine hK _ ?_; clear hK K
          refine can_pure0 rfl (fun K hK => ?_); go_simp; refine hK _ ?_; clear hK K
          refine can_pure0 rfl (fun K hK => ?_); go_simp; refine hK _ ?_; clear hK K
          refine can_pure0 rfl (fun K hK => ?_); go_simp; refine hK _ ?_; clear hK K
          refine can_pure0 rfl (fun K hK => ?_); go_simp; refine hK _ ?_; clear hK K
          refine can_pure0 rfl (fun K hK => ?_); go_simp; refine hK _ ?_; clear hK K
          refine can_mem _ rfl (by go_simp) (fun W hW hG K hK => ?_) (fun K x9 hK => ?_)
          · go_simp
            refine (HMT.out W).mono ?_
            rintro e w' ⟨rfl, h⟩
            exact hK default w' h trivial
          refine hK _ ?_; clear hK K
          dsimp only [annVal]
          refine can_pure0 rfl (fun K hK => ?_); go_simp; refine hK _ ?_; clear hK K
          refine can_pure0 rfl (fun K hK => ?_); go_simp; refine hK _ ?_; clear hK K
          refine can_pure0 rfl (fun K hK => ?_); go_simp; refine hK _ ?_; clear hK K
          refine can_mem _ rfl (by go_simp) (fun W hW hG K hK => ?_) (fun K g9 hK => ?_)
          · go_simp
            exact hK W.heap.size _ ((Upd.refl _ W).alloc _) ⟨hW.size, alloc0 _ _⟩
          refine hK _ ?_; clear hK K
          dsimp only [annBlk]
          refine can_end (fun w8 hW hG => ?_)
          obtain ⟨hb9, hg9⟩ := hG _ (List.mem_append_right _ (List.mem_singleton.2 rfl))
          clear hG
          have H8 : Hid (Ext wr w8) := Lib.hid (hW)
          have m0 := frozenRow hg9 0
          have m1 := frozenRow hg9 1
          have cc0 := cellRow hg9 0 (.int .i64 0) rfl
          have cc1 := cellRow hg9 1 (.int .i64 0) rfl
          have HG9 := Lib.hid (And.intro hb9 hg9)
          clear hW hg9 hb9
          refine mix_one (fun K hK _ => ?_) trivial; go_simp; refine hK _ _ trivial ?_; clear hK K
          refine mix_two (fun K hK => ?_); go_simp; refine hK _ _ ?_; clear hK K
          simp only [wpMix]
          clear xp0 xp1 xq0 xq1 xy0 xy1 p0 p1 q0 q1 y0 y1
          have hg10 := Nat.lt_of_lt_of_le HNS.out HG9.out.1
          have HU10 : Hid (Upd (fun j => j = wq.heap.size) wn ((w8.setCell ⟨g9, 0, none⟩ (.int .i64 X)).setCell ⟨g9, 1, none⟩ (.int .i64 Y))) := Lib.hid (((HUI.out.ext H8.out).setCell (p := ⟨g9, 0, none⟩) (.inr (Nat.le_trans HUI.out.size HG9.out.1)) _).setCell (p := ⟨g9, 1, none⟩) (.inr (Nat.le_trans HUI.out.size HG9.out.1)) _)
          have HBY := Lib.hid ((((Upd.refl (fun k => k = g9) w8).setCell (p := ⟨g9, 0, none⟩) (.inl rfl) (.int .i64 X)).setCell (p := ⟨g9, 1, none⟩) (.inl rfl) (.int .i64 Y)).heap (H8.out.heap HBN.out (fun h => h)) (by omega))
          have HUR10 : Hid (Ext w ((w8.setCell ⟨g9, 0, none⟩ (.int .i64 X)).setCell ⟨g9, 1, none⟩ (.int .i64 Y))) := Lib.hid (((HUR.out.ext H8.out).setNew (Nat.le_trans HUR.out.size HG9.out.1) _).setNew (Nat.le_trans HUR.out.size HG9.out.1) _)
          have hb9 := setBlock (setBlock HG9.out.2 0 (.int .i64 X)) 1 (.int .i64 Y)
          have t0 := cellRow hb9 0 (.int .i64 X) rfl
          have t1 := cellRow hb9 1 (.int .i64 Y) rfl
          clear hb9 m0 m1 cc0 cc1 HG9 H8 hg10 HUI HBN
          generalize ((w8.setCell ⟨g9, 0, none⟩ (.int .i64 X)).setCell ⟨g9, 1, none⟩ (.int .i64 Y)) = w10 at *
          have hmo := HRR.out.1.ext HUR10.out
          have p1 := (hmo.cells HWL.out).2
          have q1 := (hmo.cells hlk).2
          rw [HUU.out.1.2] at p1
          rw [HUU.out.2.2] at q1
          have y0 := cellRow HBY.out 0 (.int .i64 P) rfl
          have y1 := cellRow HBY.out 1 (.int .i64 Q) rfl
          have xt0 := fun x : XW w10 => x.ext.cell t0 (fun h => h)
          have xt1 := fun x : XW w10 => x.ext.cell t1 (fun h => h)
          have xy0 := fun x : XW w10 => x.ext.cell y0 (fun h => h)
          have xy1 := fun x : XW w10 => x.ext.cell y1 (fun h => h)
          have xp1 := fun x : XW w10 => x.ext.cell p1 (fun h => h)
          have xq1 := fun x : XW w10 => x.ext.cell q1 (fun h => h)
          have hrfs := Upd.refl (fun _ => False) w10
          clear hmo p1 q1 y0 y1 t0 t1
          by_cases hsp : u1 < v1
          · have tsp : decide (u1 < v1) = true := decide_eq_true hsp
            have hca : cand l p q W k = true := by
              unfold cand
              rw [HUU.out.1.2, HUU.out.2.2, tsp, HCC.out]
              rfl
            have hmt : mt l W k = (X, Y) := by unfold mt; rw [HXY.out.1, HXY.out.2]
            have hvx : vfB X Y = true := by have := (cand_ok HM.out hca).2.2.1; rw [hmt] at this; exact this
            have HN3 := Lib.hid (HQY.out X Y hca hmt)
            have HCM := Lib.hid (fun W' => rcmp_ok X Y P Q W' ⟨hvx, HVN.out⟩)
            have hcm := cmp_le (X * Q) (P * Y)
            generalize Lib.compareInt (X * Q) (P * Y) = c at *
            clear hca hmt hvx hsp
            by_cases hle : X * Q ≤ P * Y
            · rw [decide_eq_true hle] at hcm
              have HN2 : Hid (evN m e0 (ovP l p q W (k + 1)) = (true, X, Y)) := Lib.hid (HN3.out.trans (if_pos hle))
              clear hle HN3
              go_wp2_with fail
              refine wp_region_ext w10 (by assumption) (by kernel_rfl) (by kernel_rfl) ?_
              repeat (first | go_big_quiet_skip | (go_big_quiet_want; go_big_quiet_op; first | go_big_quiet_on | (apply Exists.intro; refine ⟨fun x => ?_, ?_⟩; (go_at_call 30; exact XW.call (HCM.out x.val)); go_big_quiet_on)))
              refine wpQuiet_nil ?_
              rintro w6 ⟨⟨_, hyw6⟩, rfl⟩
              try dsimp only
              have HB6 := hyw6.heap HBY.out (fun h => h)
              have z2 := cellRow HB6 0 (.int .i64 P) rfl
              have z3 := cellRow HB6 1 (.int .i64 Q) rfl
              have n0 := frozenRow HB6 0
              have n1 := frozenRow HB6 1
              have r0 := xt0 ⟨w6, hyw6⟩
              have r1 := xt1 ⟨w6, hyw6⟩
              simp only at r0 r1
              have HU11 := Lib.hid (((HU10.out.ext hyw6).setCell (p := ⟨wq.heap.size, 0, none⟩) (.inl rfl) (.int .i64 X)).setCell (p := ⟨wq.heap.size, 1, none⟩) (.inl rfl) (.int .i64 Y))
              have HB11 := Lib.hid (setBlock (setBlock HB6 0 (.int .i64 X)) 1 (.int .i64 Y))
              clear HB6 hyw6 HBY HU10 xt0 xt1 xy0 xy1 xp1 xq1 hrfs
              go_wp2_with fail
              go_roundg (l.length - (k + 1))
              case measure => omega
              case rel => exact ⟨k + 1, true, X, Y, by go_num, rfl, by omega, rfl, HN2, HU11, HB11⟩
            · rw [decide_eq_false hle] at hcm
              have HN2 : Hid (evN m e0 (ovP l p q W (k + 1)) = (F, P, Q)) := Lib.hid (HN3.out.trans (if_neg hle))
              clear hle HN3
              go_wp2_with fail
              refine wp_region_ext w10 (by assumption) (by kernel_rfl) (by kernel_rfl) ?_
              repeat (first | go_big_quiet_skip | (go_big_quiet_want; go_big_quiet_op; first | go_big_quiet_on | (apply Exists.intro; refine ⟨fun x => ?_, ?_⟩; (go_at_call 30; exact XW.call (HCM.out x.val)); go_big_quiet_on)))
              refine wpQuiet_nil ?_
              rintro w6 ⟨⟨_, hyw6⟩, rfl⟩
              try dsimp only
              clear xt0 xt1 xy0 xy1 xp1 xq1
              go_wp2_with fail
              go_roundg (l.length - (k + 1))
              case measure => omega
              case rel => exact ⟨k + 1, F, P, Q, by go_num, rfl, by omega, rfl, HN2, Lib.hid (HU10.out.ext hyw6), Lib.hid (hyw6.heap HBY.out (fun h => h))⟩
          · have tsp : decide (u1 < v1) = false := decide_eq_false hsp
            have HN2 := Lib.hid (HQN.out (by
              unfold cand
              rw [HUU.out.1.2, HUU.out.2.2, tsp]
              rfl))
            clear hsp
            go_wp2_with fail
            refine wp_region_ext w10 (by assumption) (by kernel_rfl) (by kernel_rfl) ?_
            repeat (first | go_big_quiet_skip | (go_big_quiet_want; go_big_quiet_op; first | go_big_quiet_on | (apply Exists.intro; refine ⟨fun x => ?_, ?_⟩; (fail); go_big_quiet_on)))
            refine wpQuiet_nil ?_
            rintro w6 ⟨⟨_, hyw6⟩, rfl⟩
            try dsimp only
            clear xt0 xt1 xy0 xy1 xp1 xq1
            go_wp2_with fail
            go_roundg (l.length - (k + 1))
            case measure => omega
            case rel => exact ⟨k + 1, F, P, Q, by go_num, rfl, by omega, rfl, HN2, Lib.hid (HU10.out.ext hyw6), Lib.hid (hyw6.heap HBY.out (fun h => h))⟩
      · obtain rfl : k = l.length := by omega
        have hN : evN m e0 (ovF l p q W) = (F, P, Q) := HN.out
        have HN2 := Lib.hid hN
        clear hN HN hlk hk HQ
        cases F
        · have HZ0 : Hid (evG l m e0 l.length 0 1 (wnF l 0 1) = j) := Lib.hid (by have h1 := HJ.out; rw [evN_false HN2.out] at h1; exact h1)
          go_wp2_with fail
          go_ret
          rw [HZ0.out]
          exact ⟨rfl, HUR.out⟩
        · obtain ⟨ho, hlt⟩ := evN_true HN2.out
          have hHQ := (vf_bd HPQ.out.1).2.1.1
          have hN : ovF l p q (wnF l p q) = some (P, Q) := by rw [HWN.out]; exact ho
          have HNX := Lib.hid (ov_next HM.out HLL.out.1 hHQ HPQ.out.2 hN)
          rw [HWN.out] at HNX
          have HJ2 : Hid (evG l m e0 l.length 0 1 (wnF l 0 1) = (j + 1) + evG l m e0 l.length P Q (wnF l P Q)) := Lib.hid (by
            have h1 := HJ.out
            have hf := evG_fuel (m := m) (e := e0) HM.out HLL.out.1 l.length (l.length + 1) p q hHQ HPQ.out.2 (by have := HJC.out; rw [HWN.out]; omega) (by have := HJC.out; rw [HWN.out]; omega)
            rw [HWN.out] at hf
            rw [hf] at h1
            have h2 : evG l m e0 (l.length + 1) p q W = evG l m e0 l.length P Q (wnF l P Q) + 1 := by
              show (match ovF l p q W with | none => 0 | some x => if m * x.2 < x.1 * e0 then 0 else evG l m e0 l.length x.1 x.2 (wnF l x.1 x.2) + 1) = _
              rw [ho]
              exact if_neg hlt
            omega)
          have HLE2 : Hid (P * e0 ≤ m * Q) := Lib.hid (by omega)
          have HJC2 : Hid ((j + 1) + cF l (wnF l P Q) ≤ l.length) := Lib.hid (by have h1 : cF l (wnF l P Q) < cF l W := HNX.out.2.2.2.2; have := HJC.out; omega)
          have HJ64 : Hid (j ≤ 64) := Lib.hid (by have := HJC.out; have := HLL.out.2; omega)
          have y0 := cellRow HBN.out 0 (.int .i64 P) rfl
          have y1 := cellRow HBN.out 1 (.int .i64 Q) rfl
          have z0 := cellRow HB26.out 0 (.int .i64 p) rfl
          have z1 := cellRow HB26.out 1 (.int .i64 q) rfl
          have n0 := frozenRow HB26.out 0
          have n1 := frozenRow HB26.out 1
          have HST := Lib.hid (((Upd.refl (fun k => k = w.heap.size + 2) wr).setCell (p := ⟨w.heap.size + 2, 0, none⟩) (.inl rfl) (.int .i64 P)).setCell (p := ⟨w.heap.size + 2, 1, none⟩) (.inl rfl) (.int .i64 Q))
          have HB27 := Lib.hid (setBlock (setBlock HB26.out 0 (.int .i64 P)) 1 (.int .i64 Q))
          have HU7 := Lib.hid (HUR.out.trans' HST.out (fun i hi e => by omega))
          have HB07 := Lib.hid (HST.out.heap HB06.out (by omega))
          have HRC := Lib.hid (HRW.out _ HU7.out P Q HNX.out.1)
          have HRS := HB27.out
          have rr0 := cellRow HRS 0 (.int .i64 P) rfl
          have rr1 := cellRow HRS 1 (.int .i64 Q) rfl
          have hj1 : IntKind.i64.wrap ((j : Int) + 1) = (j : Int) + 1 := IntWalk.i64_in _ (by have := HJ64.out; omega)
          clear ho hlt hN HRS hHQ
          go_wp2_with fail
          refine (HRC.out).mono ?_
          rintro e w9 ⟨rfl, hw9⟩
          have HU9 := Lib.hid (HU7.out.ext hw9)
          have HB09 := Lib.hid (hw9.heap HB07.out (fun h => h))
          have HB29 := Lib.hid (hw9.heap HB27.out (fun h => h))
          clear hw9 y0 y1 z0 z1 n0 n1 HST HB27 HU7 HB07 HRC rr0 rr1
          go_wp2_with fail
          go_roundg (cF l (wnF l P Q) + 1)
          case measure => have h1 : cF l (wnF l P Q) < cF l W := HNX.out.2.2.2.2; omega
          case rel => exact ⟨P, Q, j + 1, by go_num, rfl, rfl, Lib.hid ⟨HNX.out.1, HNX.out.2.2.1⟩, HU9, HB09, HB29, HLE2, HJ2, HJC2, Lib.hid (Array.getElem?_eq_some_iff.1 HB29.out).1⟩

end Go.Proofs.Ytncnojhbdkhcjaa

/- The law of winners. -/
namespace Go.Proofs.Ytncnojhbdkhcjaa
open Go.RowKit Go.Hw Go
set_option linter.unusedVariables false
set_option linter.unusedSimpArgs false

theorem evG_zero {l : List Mo} (hm : mB l = true) (hl : 0 < l.length) (f : Nat) : evG l 0 1 f 0 1 (wnF l 0 1) = 0 := by
  cases f with
  | zero => rfl
  | succ f =>
    unfold evG
    cases hc : ovF l 0 1 (wnF l 0 1) with
    | none => rfl
    | some x =>
      obtain ⟨_, _, _, h4, _⟩ := ov_next hm hl (by omega) (by omega) hc
      exact if_pos (by omega)
theorem evG_next {l : List Mo} {n d m e0 : Int} (hm : mB l = true) (hl : 0 < l.length) (hn : 0 ≤ n) (hd : 1 ≤ d) (he : 1 ≤ e0) (hle : n * e0 ≤ m * d) : (evG l n d l.length 0 1 (wnF l 0 1)) + evG l m e0 l.length n d (wnF l n d) = (evG l m e0 l.length 0 1 (wnF l 0 1)) := by
  have h := evG_sum (m := n) (e := d) (p := m) (g := e0) hm hl hd he hle l.length 0 1 (by omega) (by omega) (Nat.le_of_lt (cF_le (wnF_lt 0 1 hl))) (by omega)
  exact h.symm
theorem evG_64 {l : List Mo} (n d : Int) (hm : mB l = true) (hl : 0 < l.length) : (evG l n d l.length 0 1 (wnF l 0 1)) < l.length :=
  Nat.lt_of_le_of_lt (evG_le hm hl l.length 0 1 (by omega) (by omega)) (cF_le (wnF_lt 0 1 hl))
theorem cmpI_neg2 (a b : Int) : decide (Lib.compareInt a b < 0) = decide (a < b) := by
  unfold Lib.compareInt
  split
  · rw [decide_eq_true (show (-1 : Int) < 0 by omega), decide_eq_true (show a < b by omega)]
  · split
    · rw [decide_eq_false (show ¬ (1 : Int) < 0 by omega), decide_eq_false (show ¬ a < b by omega)]
    · rw [decide_eq_false (show ¬ (0 : Int) < 0 by omega), decide_eq_false (show ¬ a < b by omega)]
set_option maxRecDepth 100000 in
set_option maxHeartbeats 2000000 in
theorem winners_x (l T : List Mo) (hcb : ∀ i, i < T.length → (-9223372036854775808 ≤ (mg T i).1 ∧ (mg T i).1 ≤ 9223372036854775807) ∧ (-9223372036854775808 ≤ (mg T i).2 ∧ (mg T i).2 ≤ 9223372036854775807)) (S U : Nat → Prop) (v u : Value) (w : World) (hR : MoR S w v l) (hS : ∀ k, S k → k < w.heap.size) (hC : MoR U w u T) (hU : ∀ k, U k → k < w.heap.size) :
    Calls Try.prog 6 #[v, u] w fun e w' => e = .returned (.bool true) ∧ Ext w w' := by
  have HRL := Lib.hid (And.intro hR hS)
  have HCL := Lib.hid (And.intro hC hU)
  have HCB := Lib.hid hcb
  obtain ⟨a, cap, rfl⟩ := hR.shape
  obtain ⟨ac, cc, rfl⟩ := hC.shape
  have HAW := Lib.hid awake_x
  have HLG := Lib.hid (fun w => long_x a l.length cap w)
  clear hR hS hC hU hcb
  cases hlong : longB l.length
  rotate_left
  · rw [hlong] at HLG
    go_enter Try.func6, Try.ntmps6
    go_wp2_with fail
    refine (HAW.out _).mono ?_
    rintro e w4 ⟨rfl, hw4⟩
    have H4 := Lib.hid hw4
    clear hw4
    go_wp2_with fail
    refine (HLG.out _).mono ?_
    rintro e w5 ⟨rfl, rfl⟩
    go_wp2_with fail
    go_ret
    exact ⟨rfl, H4.out⟩
  rw [hlong] at HLG
  have HLN : Hid (l.length ≤ 100) := Lib.hid (by unfold longB at hlong; simp at hlong; omega)
  have HLN2 : Hid (l.length ≤ 64 → l.length ≤ 12) := Lib.hid (by unfold longB at hlong; simp at hlong; omega)
  clear hlong
  by_cases h12 : 12 < T.length
  · have t1 : decide ((12 : Int) < (T.length : Int)) = true := decide_eq_true (by omega)
    have t1' : decide (12 < T.length) = true := decide_eq_true h12
    go_enter Try.func6, Try.ntmps6
    go_wp2_with fail
    refine (HAW.out _).mono ?_
    rintro e w4 ⟨rfl, hw4⟩
    have H4 := Lib.hid hw4
    clear hw4
    go_wp2_with fail
    refine (HLG.out _).mono ?_
    rintro e w5 ⟨rfl, rfl⟩
    go_wp2_with fail
    go_ret
    exact ⟨rfl, H4.out⟩
  have t1 : decide ((12 : Int) < (T.length : Int)) = false := decide_eq_false (by omega)
  have t1' : decide (12 < T.length) = false := decide_eq_false h12
  have HC12 : Hid (T.length ≤ 12) := Lib.hid (by omega)
  clear h12
  have HRS := Lib.hid (fun W (hW : Ext w W) => rmots_x l S (.slice a l.length cap) W (HRL.out.1.ext hW) (by have := HLN.out; omega))
  cases hm : mB l
  · have HMD := Lib.hid (fun W (hW : Ext w W) => newt_bad l S (.slice a l.length cap) W (by have := HLN.out; omega) (HRL.out.1.ext hW) (fun k hk => Nat.lt_of_lt_of_le (HRL.out.2 k hk) hW.size) hm)
    rw [hm] at HRS
    clear hm
    go_enter Try.func6, Try.ntmps6
    go_wp2_with fail
    refine (HAW.out _).mono ?_
    rintro e w4 ⟨rfl, hw4⟩
    have H4 := Lib.hid hw4
    clear hw4
    go_wp2_with fail
    refine (HLG.out _).mono ?_
    rintro e w5 ⟨rfl, rfl⟩
    go_wp2_with fail
    refine (HMD.out _ H4.out).mono ?_
    rintro e w6 ⟨rfl, hw6⟩
    have H6 := Lib.hid (H4.out.ext hw6)
    clear hw6
    go_wp2_with fail
    refine (HRS.out _ H6.out).mono ?_
    rintro e w7 ⟨rfl, hw7⟩
    have H7 := Lib.hid (H6.out.ext hw7)
    clear hw7
    go_wp2_with fail
    go_ret
    exact ⟨rfl, H7.out⟩
  by_cases h0 : l.length = 0
  · have HMD := Lib.hid (fun W (hW : Ext w W) => newt_empty l S (.slice a l.length cap) W (by have := HLN.out; omega) (HRL.out.1.ext hW) (fun k hk => Nat.lt_of_lt_of_le (HRL.out.2 k hk) hW.size) hm h0)
    rw [hm] at HRS
    clear hm
    obtain ⟨N, hN⟩ : ∃ N, l.length = N := ⟨_, rfl⟩
    simp only [hN] at *
    subst h0
    go_enter Try.func6, Try.ntmps6
    go_wp2_with fail
    refine (HAW.out _).mono ?_
    rintro e w4 ⟨rfl, hw4⟩
    have H4 := Lib.hid hw4
    clear hw4
    go_wp2_with fail
    refine (HLG.out _).mono ?_
    rintro e w5 ⟨rfl, rfl⟩
    go_wp2_with fail
    refine (HMD.out _ H4.out).mono ?_
    rintro e w6 ⟨rfl, hw6⟩
    have H6 := Lib.hid (H4.out.ext hw6)
    clear hw6
    go_wp2_with fail
    refine (HRS.out _ H6.out).mono ?_
    rintro e w7 ⟨rfl, hw7⟩
    have H7 := Lib.hid (H6.out.ext hw7)
    clear hw7
    go_wp2_with fail
    go_ret
    exact ⟨rfl, H7.out⟩
  have q0 : ((l.length : Int) == 0) = false := beq_eq_false_iff_ne.2 (by omega)
  have q0' : decide ((l.length : Int) = 0) = false := decide_eq_false (by omega)
  by_cases h64 : 64 < l.length
  · have q1 : decide ((64 : Int) < (l.length : Int)) = true := decide_eq_true (by omega)
    have q1' : decide (64 < l.length) = true := decide_eq_true h64
    have HMD := Lib.hid (fun W (hW : Ext w W) => newt_full l S (.slice a l.length cap) W (by have := HLN.out; omega) (HRL.out.1.ext hW) (fun k hk => Nat.lt_of_lt_of_le (HRL.out.2 k hk) hW.size) hm h64)
    rw [hm] at HRS
    clear hm h64 h0
    go_enter Try.func6, Try.ntmps6
    go_wp2_with fail
    refine (HAW.out _).mono ?_
    rintro e w4 ⟨rfl, hw4⟩
    have H4 := Lib.hid hw4
    clear hw4
    go_wp2_with fail
    refine (HLG.out _).mono ?_
    rintro e w5 ⟨rfl, rfl⟩
    go_wp2_with fail
    refine (HMD.out _ H4.out).mono ?_
    rintro e w6 ⟨rfl, hw6⟩
    have H6 := Lib.hid (H4.out.ext hw6)
    clear hw6
    go_wp2_with fail
    refine (HRS.out _ H6.out).mono ?_
    rintro e w7 ⟨rfl, hw7⟩
    have H7 := Lib.hid (H6.out.ext hw7)
    clear hw7
    go_wp2_with fail
    go_ret
    exact ⟨rfl, H7.out⟩
  have q1 : decide ((64 : Int) < (l.length : Int)) = false := decide_eq_false (by omega)
  have q1' : decide (64 < l.length) = false := decide_eq_false h64
  have HMD := Lib.hid (fun W (hW : Ext w W) => newt_ok l S (.slice a l.length cap) W (by have := HLN.out; omega) (HRL.out.1.ext hW) (fun k hk => Nat.lt_of_lt_of_le (HRL.out.2 k hk) hW.size) hm (by omega) (by omega))
  have HL12 : Hid (0 < l.length ∧ l.length ≤ 12) := Lib.hid ⟨by omega, HLN2.out (by omega)⟩
  have HM := Lib.hid hm
  rw [hm] at HRS
  clear hm h64 h0 HLN HLN2
  go_enter Try.func6, Try.ntmps6
  go_wp2_with fail
  refine (HAW.out _).mono ?_
  rintro e w4 ⟨rfl, hw4⟩
  have H4 := Lib.hid hw4
  clear hw4
  go_wp2_with fail
  refine (HLG.out _).mono ?_
  rintro e w5 ⟨rfl, rfl⟩
  go_wp2_with fail
  refine (HMD.out _ H4.out).mono ?_
  rintro e w6 ⟨kb, mv, rfl, hL, hf1, hf2, hw6⟩
  have H6 := Lib.hid (H4.out.ext hw6)
  have HL6 := Lib.hid hL
  have HF := Lib.hid (show w.heap.size ≤ kb ∧ ∀ g, mv.ownBlock = some g → w.heap.size ≤ g from ⟨Nat.le_trans H4.out.size hf1, fun g hg => Nat.le_trans H4.out.size (hf2 g hg)⟩)
  clear hL hf1 hf2 hw6 H4 HMD HAW HLG t1 t1'
  go_wp2_with fail
  refine (HRS.out _ H6.out).mono ?_
  rintro e w7 ⟨rfl, hw7⟩
  have H7 := Lib.hid (H6.out.ext hw7)
  have HL7 := Lib.hid (HL6.out.ext hw7)
  have HU8 := Lib.hid ((Upd.refl (fun _ => False) w7).alloc (.cells #[.int .i64 0, .int .i64 1] 25))
  have HB8 := Lib.hid (alloc0 w7 (.cells #[.int .i64 0, .int .i64 1] 25))
  have HKB := Lib.hid (Array.getElem?_eq_some_iff.1 HL7.out.cell).1
  have HMV := Lib.hid HL7.out.mot.lt
  have HS8 : Hid (w7.heap.size < (w7.alloc (.cells #[.int .i64 0, .int .i64 1] 25)).heap.size) := Lib.hid (by simp)
  clear hw7 HL6 H6 HRS
  go_wp2_with fail
  generalize (w7.alloc (.cells #[.int .i64 0, .int .i64 1] 25)) = w8 at *
  obtain ⟨nb, hnb⟩ : ∃ nb, nb = w7.heap.size := ⟨_, rfl⟩
  rw [← hnb] at HB8 HKB HMV HS8 ⊢
  have HL8 := Lib.hid (HL7.out.ext HU8.out)
  have H8 := Lib.hid (H7.out.ext HU8.out)
  have HNB : Hid (w.heap.size ≤ nb) := Lib.hid (by rw [hnb]; exact H7.out.size)
  clear hnb HL7 H7 HU8
  go_loopg [8] T.length (fun gk iv wr => ∃ (i : Nat) (n d : Int), iv = .int .i64 (i : Int) ∧ gk = T.length - i ∧ i ≤ T.length ∧ Hid (Ext w wr) ∧ Hid (TR wr kb mv l n d (evG l n d l.length 0 1 (wnF l 0 1))) ∧ Hid (wr.heap[nb]? = some (.cells #[.int .i64 n, .int .i64 d] 25 (0, 0))))
  case atStart => exact ⟨0, 0, 1, rfl, rfl, Nat.zero_le _, H8, Lib.hid (by rw [evG_zero HM.out HL12.out.1]; exact HL8.out), HB8⟩
  case round =>
    clear H8 HL8 HB8 HS8
    obtain ⟨i, n, d, rfl, rfl, hi, HE, HT, HB⟩ := hrel
    have HWI := Lib.hid (fun W (hW : Ext wr W) => winner_x W kb mv l n d _ (HT.out.ext hW))
    have HEV := Lib.hid (fun W (hW : Ext wr W) => events_x W kb mv l n d _ (HT.out.ext hW))
    have HRW := Lib.hid (fun W (hW : Ext w W) p q (hpq : vfB p q = true) => rwinner_x l p q S _ W HL12.out.1 (by have := HL12.out.2; omega) HM.out hpq (HRL.out.1.ext hW) (fun k hk => Nat.lt_of_lt_of_le (HRL.out.2 k hk) hW.size))
    have HRV := Lib.hid (fun W (hW : Ext wr W) => revents_x l n d S _ W HL12.out.1 (by have := HL12.out.2; omega) HM.out HT.out.okt HT.out.pos (HRL.out.1.ext (HE.out.ext hW)) (fun k hk => Nat.lt_of_lt_of_le (HRL.out.2 k hk) (HE.out.ext hW).size))
    have HRWn := Lib.hid (fun W (hW : Ext wr W) => HRW.out W (HE.out.ext hW) n d HT.out.okt)
    have HADO := Lib.hid (fun W m e0 (hW : TR W kb mv l n d (evG l n d l.length 0 1 (wnF l 0 1))) ht hle => tadv_ok W kb mv l n d m e0 _ hW ht hle (by have := evG_64 n d HM.out HL12.out.1; have := HL12.out.2; omega))
    have HVX : Hid (∀ m e0, vfB m e0 = true → n * e0 ≤ m * d → (evG l n d l.length 0 1 (wnF l 0 1)) + evG l m e0 l.length n d (wnF l n d) = (evG l m e0 l.length 0 1 (wnF l 0 1))) := Lib.hid (fun m e0 hv hle => evG_next HM.out HL12.out.1 HT.out.pos (vf_bd HT.out.okt).2.1.1 (vf_bd hv).2.1.1 hle)
    generalize hev : (evG l n d l.length 0 1 (wnF l 0 1)) = ev at *
    generalize hwn : wnF l n d = wn at *
    have HEW := Lib.hid (And.intro hev hwn)
    clear hev hwn
    have n0 := cellRow HB.out 0 (.int .i64 n) rfl
    have n1 := cellRow HB.out 1 (.int .i64 d) rfl
    have xn0 := fun x : XW wr => x.ext.cell n0 (fun h => h)
    have xn1 := fun x : XW wr => x.ext.cell n1 (fun h => h)
    have hrfs := Upd.refl (fun _ => False) wr
    clear n0 n1
    have hc12 := HC12.out
    go_wp2_with fail
    refine wp_region_ext wr (by assumption) (by kernel_rfl) (by kernel_rfl) ?_
    repeat (first | go_big_quiet_skip | (go_big_quiet_want; go_big_quiet_op; first | go_big_quiet_on | (apply Exists.intro; refine ⟨fun x => ?_, ?_⟩; (first | (go_at_call 39; exact XW.call (HWI.out x.val x.ext)) | (go_at_call 40; exact XW.call (HRWn.out x.val x.ext)) | (go_at_call 41; exact XW.call (HEV.out x.val x.ext)) | (go_at_call 42; exact XW.call (HRV.out x.val x.ext))); go_big_quiet_on)))
    refine wpQuiet_nil ?_
    rintro w9 ⟨⟨_, hyw9⟩, rfl⟩
    try dsimp only
    have HE9 := Lib.hid (HE.out.ext hyw9)
    have HT9 := Lib.hid (HT.out.ext hyw9)
    have HB9 := Lib.hid (hyw9.heap HB.out (fun h => h))
    clear xn0 xn1 hrfs hyw9 HE HT HB HWI HEV HRV HRWn
    by_cases hlt : i < T.length
    · have hmo := HCL.out.1.ext HE9.out
      obtain ⟨g5, o5, rfl⟩ := hmo.at_ (by omega)
      obtain ⟨p0, p1⟩ := hmo.cells hlt
      obtain ⟨⟨b1, b2⟩, b3, b4⟩ := HCB.out i hlt
      have HTM := Lib.hid (fun W (hW : Ext w9 W) => (hmo.ext hW).cells hlt)
      obtain ⟨m, hm⟩ : ∃ m, (mg T i).1 = m := ⟨_, rfl⟩
      obtain ⟨e0, he⟩ : ∃ m, (mg T i).2 = m := ⟨_, rfl⟩
      rw [hm] at p0 b1 b2 HTM
      rw [he] at p1 b3 b4 HTM
      have HME := Lib.hid (And.intro hm he)
      clear hm he hmo
      have z1 : ((i : Int) == (T.length : Int)) = false := beq_eq_false_iff_ne.2 (by omega)
      have z1' : decide ((i : Int) = (T.length : Int)) = false := decide_eq_false (by omega)
      have j0 : (0 : Int) ≤ (i : Int) := by omega
      have j1 : (i : Int) < (T.length : Int) := by omega
      cases ht : timeB m e0
      · have HAD := Lib.hid (tadv_bad w9 kb m e0 b1 b2 b3 b4 ht)
        have HRT := Lib.hid (fun W => rtime_x m e0 W)
        rw [ht] at HRT
        clear ht b1 b2 b3 b4
        go_wp2_with fail
        refine HAD.out.mono ?_
        rintro e wa ⟨rfl, hwa⟩
        have HA := Lib.hid hwa
        clear hwa p0 p1
        obtain ⟨p0, p1⟩ := HTM.out wa HA.out
        go_wp2_with fail
        refine (HRT.out _).mono ?_
        rintro e wb ⟨rfl, hwb⟩
        have HBB := Lib.hid (HA.out.ext hwb)
        clear hwb p0 p1
        go_wp2_with fail
        go_roundg (T.length - (i + 1))
        case measure => omega
        case rel => exact ⟨i + 1, n, d, by go_num, rfl, by omega, Lib.hid (HE9.out.ext HBB.out), Lib.hid (by rw [HEW.out.1]; exact HT9.out.ext HBB.out), Lib.hid (HBB.out.heap HB9.out (fun h => h))⟩
      · have HV := Lib.hid ((timeB_iff _ _).1 ht)
        have HRT := Lib.hid (fun W => rtime_x m e0 W)
        rw [ht] at HRT
        have HCP := Lib.hid (fun W => rcmp_ok m e0 n d W ⟨HV.out.1, HT9.out.okt⟩)
        have hcz := cmpI_neg2 (m * d) (n * e0)
        generalize Lib.compareInt (m * d) (n * e0) = Z at *
        by_cases hlt2 : m * d < n * e0
        · have HAD := Lib.hid (tadv_early w9 kb mv l n d m e0 _ HT9.out ht hlt2)
          rw [decide_eq_true hlt2] at hcz
          clear ht b1 b2 b3 b4 hlt2
          go_wp2_with fail
          refine HAD.out.mono ?_
          rintro e wa ⟨rfl, hwa⟩
          have HA := Lib.hid hwa
          clear hwa p0 p1
          obtain ⟨p0, p1⟩ := HTM.out wa HA.out
          go_wp2_with fail
          refine (HRT.out _).mono ?_
          rintro e wb ⟨rfl, hwb⟩
          have HBB := Lib.hid (HA.out.ext hwb)
          clear hwb p0 p1
          obtain ⟨p0, p1⟩ := HTM.out wb HBB.out
          have n0 := cellRow (HBB.out.heap HB9.out (fun h => h)) 0 (.int .i64 n) rfl
          have n1 := cellRow (HBB.out.heap HB9.out (fun h => h)) 1 (.int .i64 d) rfl
          have xp0 := fun x : XW wb => x.ext.cell p0 (fun h => h)
          have xp1 := fun x : XW wb => x.ext.cell p1 (fun h => h)
          have xn0 := fun x : XW wb => x.ext.cell n0 (fun h => h)
          have xn1 := fun x : XW wb => x.ext.cell n1 (fun h => h)
          have hrfs := Upd.refl (fun _ => False) wb
          clear p0 p1 n0 n1
          go_wp2_with fail
          refine wp_region_ext wb (by assumption) (by kernel_rfl) (by kernel_rfl) ?_
          repeat (first | go_big_quiet_skip | (go_big_quiet_want; go_big_quiet_op; first | go_big_quiet_on | (apply Exists.intro; refine ⟨fun x => ?_, ?_⟩; (go_at_call 30; exact XW.call (HCP.out x.val)); go_big_quiet_on)))
          refine wpQuiet_nil ?_
          rintro wc ⟨⟨_, hywc⟩, rfl⟩
          try dsimp only
          have HCC := Lib.hid (HBB.out.ext hywc)
          clear xp0 xp1 xn0 xn1 hrfs hywc
          go_wp2_with fail
          go_roundg (T.length - (i + 1))
          case measure => omega
          case rel => exact ⟨i + 1, n, d, by go_num, rfl, by omega, Lib.hid (HE9.out.ext HCC.out), Lib.hid (by rw [HEW.out.1]; exact HT9.out.ext HCC.out), Lib.hid (HCC.out.heap HB9.out (fun h => h))⟩
        · have HLE := Lib.hid (show n * e0 ≤ m * d by omega)
          have HAD := Lib.hid (HADO.out w9 m e0 HT9.out ht HLE.out)
          rw [HVX.out m e0 HV.out.1 HLE.out] at HAD
          rw [decide_eq_false hlt2] at hcz
          have hnbk := HKB.out
          have hmvk := HMV.out
          have hsz := HNB.out
          have hkb0 := HF.out.1
          clear ht b1 b2 b3 b4 hlt2
          go_wp2_with fail
          refine HAD.out.mono ?_
          rintro e wa ⟨rfl, hTa, hwa⟩
          have HEa := Lib.hid (HE9.out.trans' hwa (fun q hq e => by omega))
          have HBa := Lib.hid (hwa.heap HB9.out (by omega))
          have HTa := Lib.hid hTa
          have HTMa := Lib.hid (fun W (hW : Ext wa W) => (HCL.out.1.ext (HEa.out.ext hW)).cells hlt)
          clear hwa hTa p0 p1
          rw [show (mg T i).1 = m from HME.out.1] at HTMa
          rw [show (mg T i).2 = e0 from HME.out.2] at HTMa
          obtain ⟨p0, p1⟩ := HTMa.out wa (Upd.refl _ _)
          go_wp2_with fail
          refine (HRT.out _).mono ?_
          rintro e wb ⟨rfl, hwb⟩
          have HBB := Lib.hid hwb
          clear hwb p0 p1
          obtain ⟨p0, p1⟩ := HTMa.out wb HBB.out
          have n0 := cellRow (HBB.out.heap HBa.out (fun h => h)) 0 (.int .i64 n) rfl
          have n1 := cellRow (HBB.out.heap HBa.out (fun h => h)) 1 (.int .i64 d) rfl
          have xp0 := fun x : XW wb => x.ext.cell p0 (fun h => h)
          have xp1 := fun x : XW wb => x.ext.cell p1 (fun h => h)
          have xn0 := fun x : XW wb => x.ext.cell n0 (fun h => h)
          have xn1 := fun x : XW wb => x.ext.cell n1 (fun h => h)
          have hrfs := Upd.refl (fun _ => False) wb
          clear p0 p1 n0 n1
          go_wp2_with fail
          refine wp_region_ext wb (by assumption) (by kernel_rfl) (by kernel_rfl) ?_
          repeat (first | go_big_quiet_skip | (go_big_quiet_want; go_big_quiet_op; first | go_big_quiet_on | (apply Exists.intro; refine ⟨fun x => ?_, ?_⟩; (go_at_call 30; exact XW.call (HCP.out x.val)); go_big_quiet_on)))
          refine wpQuiet_nil ?_
          rintro wc ⟨⟨_, hywc⟩, rfl⟩
          try dsimp only
          have HCC := Lib.hid (HBB.out.ext hywc)
          clear xp0 xp1 xn0 xn1 hrfs hywc HBB
          obtain ⟨p0, p1⟩ := HTMa.out wc HCC.out
          have HBc := Lib.hid (HCC.out.heap HBa.out (fun h => h))
          have f0 := frozenRow HBc.out 0
          have f1 := frozenRow HBc.out 1
          have n0 := cellRow HBc.out 0 (.int .i64 n) rfl
          have n1 := cellRow HBc.out 1 (.int .i64 d) rfl
          have HUd := Lib.hid (((Upd.refl (fun k => k = nb) wc).setCell (p := ⟨nb, 0, none⟩) (.inl rfl) (.int .i64 m)).setCell (p := ⟨nb, 1, none⟩) (.inl rfl) (.int .i64 e0))
          have HBd := Lib.hid (setBlock (setBlock HBc.out 0 (.int .i64 m)) 1 (.int .i64 e0))
          have HEd := Lib.hid ((HEa.out.ext HCC.out).trans' HUd.out (fun q hq e => by omega))
          have HTd := Lib.hid ((HTa.out.ext HCC.out).kept HUd.out (by omega) (fun g hg e => by have := hmvk g hg; omega))
          have HRWd := Lib.hid (HRW.out _ HEd.out m e0 HV.out.1)
          have hbd := HBd.out
          have r0 := cellRow hbd 0 (.int .i64 m) rfl
          have r1 := cellRow hbd 1 (.int .i64 e0) rfl
          clear hbd hnbk hmvk hsz hkb0
          go_wp2_with fail
          refine (HRWd.out).mono ?_
          rintro e we ⟨rfl, hwe⟩
          have HEe := Lib.hid (HEd.out.ext hwe)
          have HTe := Lib.hid (HTd.out.ext hwe)
          have HBe := Lib.hid (hwe.heap HBd.out (fun h => h))
          clear hwe p0 p1 f0 f1 n0 n1 r0 r1 HRWd HUd
          go_wp2_with fail
          go_roundg (T.length - (i + 1))
          case measure => omega
          case rel => exact ⟨i + 1, m, e0, by go_num, rfl, by omega, HEe, HTe, HBe⟩
    · obtain rfl : i = T.length := by omega
      have z1 : ((T.length : Int) == (T.length : Int)) = true := by simp
      go_wp2_with fail
      go_ret
      exact ⟨rfl, HE9.out⟩

end Go.Proofs.Ytncnojhbdkhcjaa

/- The law of the last. -/
namespace Go.Proofs.Ytncnojhbdkhcjaa
open Go.RowKit Go.Hw Go
set_option linter.unusedVariables false
set_option linter.unusedSimpArgs false

theorem chE_same {l : List Mo} {n d : Int} {i : Nat} (hm : mB l = true) (hi : i < l.length) : chE l n d i (mg l i).2 = 0 ∧ chL l n d i (mg l i).2 = l := by
  obtain ⟨h1, h2, h3⟩ := (badM_iff _ _).1 (mB_at hm i)
  have hr : chR l.length i (mg l i).2 = false := (chR_iff _ _ _).2 ⟨⟨by omega, by omega⟩, h2, h3⟩
  have hx : chX l n ((i : Int).toNat) (mg l i).2 = 0 := by
    unfold chX
    rw [Int.toNat_natCast, Int.sub_self, Int.zero_mul]
  have ha : chA l n d ((i : Int).toNat) (mg l i).2 = (mg l i).1 := by
    unfold chA
    rw [hx, Int.toNat_natCast, Int.zero_tdiv, Int.add_zero]
  have he : chE l n d i (mg l i).2 = 0 := by
    unfold chE
    rw [hr, if_neg (by decide), hx, Int.zero_tmod, if_neg (by decide), ha, mB_at hm i]
    rfl
  refine ⟨he, ?_⟩
  unfold chL
  rw [he, if_pos rfl, ha, Int.toNat_natCast]
  have e : ((mg l i).1, (mg l i).2) = l[i] := by
    unfold mg
    rw [List.getD_eq_getElem?_getD, List.getElem?_eq_getElem hi]
    rfl
  rw [e, List.set_getElem_self]
set_option maxRecDepth 100000 in
set_option maxHeartbeats 2000000 in
theorem klast_x (l : List Mo) (m e0 i : Int) (bm0 : -9223372036854775808 ≤ m) (bm1 : m ≤ 9223372036854775807) (be0 : -9223372036854775808 ≤ e0) (be1 : e0 ≤ 9223372036854775807) (S : Nat → Prop) (v : Value) (w : World) (hR : MoR S w v l) (hS : ∀ k, S k → k < w.heap.size) :
    Calls Try.prog 7 #[v, .agg #[.int .i64 m, .int .i64 e0], .int .i64 i] w fun e w' => e = .returned (.bool true) ∧ Ext w w' := by
  have HRL := Lib.hid (And.intro hR hS)
  obtain ⟨a, cap, rfl⟩ := hR.shape
  have HAW := Lib.hid awake_x
  have HZ := Lib.hid ((Upd.refl (fun _ => False) w).alloc (.cells #[.int .i64 m, .int .i64 e0] 25))
  have HB := Lib.hid (alloc0 w (.cells #[.int .i64 m, .int .i64 e0] 25))
  clear hR hS
  by_cases h12 : 12 < l.length
  · have t1 : decide ((12 : Int) < (l.length : Int)) = true := decide_eq_true (by omega)
    have t1' : decide (12 < l.length) = true := decide_eq_true h12
    go_enter Try.func7, Try.ntmps7
    go_wp2_with fail
    refine (HAW.out _).mono ?_
    rintro e w4 ⟨rfl, hw4⟩
    have H4 := Lib.hid (HZ.out.ext hw4)
    have HW4 := Lib.hid hw4
    clear hw4
    go_wp2_with fail
    go_ret
    exact ⟨rfl, H4.out⟩
  have t1 : decide ((12 : Int) < (l.length : Int)) = false := decide_eq_false (by omega)
  have t1' : decide (12 < l.length) = false := decide_eq_false h12
  by_cases h0 : l.length = 0
  · obtain ⟨N, hN⟩ : ∃ N, l.length = N := ⟨_, rfl⟩
    rw [hN] at h0
    subst h0
    simp only [hN] at *
    go_enter Try.func7, Try.ntmps7
    go_wp2_with fail
    refine (HAW.out _).mono ?_
    rintro e w4 ⟨rfl, hw4⟩
    have H4 := Lib.hid (HZ.out.ext hw4)
    have HW4 := Lib.hid hw4
    clear hw4
    go_wp2_with fail
    go_ret
    exact ⟨rfl, H4.out⟩
  have q0 : ((l.length : Int) == 0) = false := beq_eq_false_iff_ne.2 (by omega)
  have q0' : decide ((l.length : Int) = 0) = false := decide_eq_false (by omega)
  have HLN : Hid (0 < l.length ∧ l.length ≤ 12) := Lib.hid ⟨by omega, by omega⟩
  have HRS := Lib.hid (fun W (hW : Ext w W) => rmots_x l S (.slice a l.length cap) W (HRL.out.1.ext hW) (by have := HLN.out; omega))
  cases hm : mB l
  · rw [hm] at HRS
    clear hm h0 h12
    go_enter Try.func7, Try.ntmps7
    go_wp2_with fail
    refine (HAW.out _).mono ?_
    rintro e w4 ⟨rfl, hw4⟩
    have H4 := Lib.hid (HZ.out.ext hw4)
    have HW4 := Lib.hid hw4
    clear hw4
    go_wp2_with fail
    refine (HRS.out _ H4.out).mono ?_
    rintro e w5 ⟨rfl, hw5⟩
    have H5 := Lib.hid (H4.out.ext hw5)
    clear hw5
    go_wp2_with fail
    go_ret
    exact ⟨rfl, H5.out⟩
  have HM := Lib.hid hm
  rw [hm] at HRS
  have HRT := Lib.hid (fun W => rtime_x m e0 W)
  cases ht : timeB m e0
  · rw [ht] at HRT
    clear hm h0 h12
    go_enter Try.func7, Try.ntmps7
    go_wp2_with fail
    refine (HAW.out _).mono ?_
    rintro e w4 ⟨rfl, hw4⟩
    have H4 := Lib.hid (HZ.out.ext hw4)
    have HW4 := Lib.hid hw4
    clear hw4
    have HB4 := Lib.hid (HW4.out.heap HB.out (fun h => h))
    go_wp2_with fail
    refine (HRS.out _ H4.out).mono ?_
    rintro e w5 ⟨rfl, hw5⟩
    have H5 := Lib.hid (H4.out.ext hw5)
    have HB5 := Lib.hid (hw5.heap HB4.out (fun h => h))
    clear hw5
    have c0 := cellRow HB5.out 0 (.int .i64 m) rfl
    have c1 := cellRow HB5.out 1 (.int .i64 e0) rfl
    go_wp2_with fail
    refine (HRT.out _).mono ?_
    rintro e w6 ⟨rfl, hw6⟩
    have H6 := Lib.hid (H5.out.ext hw6)
    clear hw6 c0 c1
    go_wp2_with fail
    go_ret
    exact ⟨rfl, H6.out⟩
  rw [ht] at HRT
  have HTT := Lib.hid ht
  have HV := Lib.hid ((timeB_iff _ _).1 ht)
  have HMD := Lib.hid (fun W (hW : Ext w W) => made_ok l S (.slice a l.length cap) W (by have := HLN.out; omega) (HRL.out.1.ext hW) (fun k hk => Nat.lt_of_lt_of_le (HRL.out.2 k hk) hW.size) hm (by omega))
  have HND := Lib.hid (fun W (hW : Ext w W) => newt_ok l S (.slice a l.length cap) W (by have := HLN.out; omega) (HRL.out.1.ext hW) (fun k hk => Nat.lt_of_lt_of_le (HRL.out.2 k hk) hW.size) hm (by omega) (by omega))
  have HOO := Lib.hid (fun W (hW : Ext w W) => Order_ok l m e0 S (.slice a l.length cap) W bm0 bm1 be0 be1 (by have := HLN.out; omega) (HRL.out.1.ext hW) (fun k hk => Nat.lt_of_lt_of_le (HRL.out.2 k hk) hW.size) hm ht (by omega))
  clear hm h0 h12 ht bm0 bm1 be0 be1
  go_enter Try.func7, Try.ntmps7
  go_wp2_with fail
  refine (HAW.out _).mono ?_
  rintro e w4 ⟨rfl, hw4⟩
  have H4 := Lib.hid (HZ.out.ext hw4)
  have HW4 := Lib.hid hw4
  clear hw4
  have HB4 := Lib.hid (HW4.out.heap HB.out (fun h => h))
  go_wp2_with fail
  refine (HRS.out _ H4.out).mono ?_
  rintro e w5 ⟨rfl, hw5⟩
  have H5 := Lib.hid (H4.out.ext hw5)
  have HB5 := Lib.hid (hw5.heap HB4.out (fun h => h))
  clear hw5
  have c0 := cellRow HB5.out 0 (.int .i64 m) rfl
  have c1 := cellRow HB5.out 1 (.int .i64 e0) rfl
  go_wp2_with fail
  refine (HRT.out _).mono ?_
  rintro e w6 ⟨rfl, hw6⟩
  have H6 := Lib.hid (H5.out.ext hw6)
  have HB6 := Lib.hid (hw6.heap HB5.out (fun h => h))
  clear hw6 c0 c1 HB4 HB5 H4 H5 HRS
  go_wp2_with fail
  refine (HMD.out _ H6.out).mono ?_
  rintro e w7 ⟨kb, mv, ov, rfl, hL, ⟨hf1, hf2, hf3⟩, hw7⟩
  have H7 := Lib.hid (H6.out.ext hw7)
  have HB7 := Lib.hid (hw7.heap HB6.out (fun h => h))
  have HL7 := Lib.hid hL
  have HF := Lib.hid (show w6.heap.size ≤ kb ∧ (∀ g, mv.ownBlock = some g → w6.heap.size ≤ g) ∧ (∀ g, ov.ownBlock = some g → w6.heap.size ≤ g) from ⟨hf1, hf2, hf3⟩)
  have HSB := Lib.hid (Array.getElem?_eq_some_iff.1 HB6.out).1
  clear hL hf1 hf2 hf3 hw7 HB6 HMD
  go_wp2_with fail
  refine (HND.out _ H7.out).mono ?_
  rintro e w8 ⟨kt, mt2, rfl, hT, hg1, hg2, hw8⟩
  have H8 := Lib.hid (H7.out.ext hw8)
  have HB8 := Lib.hid (hw8.heap HB7.out (fun h => h))
  have HL8 := Lib.hid (HL7.out.ext hw8)
  have HT8 := Lib.hid hT
  have HG := Lib.hid (show w7.heap.size ≤ kt ∧ (∀ g, mt2.ownBlock = some g → w7.heap.size ≤ g) from ⟨hg1, hg2⟩)
  have HKL := Lib.hid (show kb < w7.heap.size ∧ (∀ g, mv.ownBlock = some g → g < w7.heap.size) ∧ (∀ g, ov.ownBlock = some g → g < w7.heap.size) from ⟨(Array.getElem?_eq_some_iff.1 HL7.out.cell).1, fun g h => (HL7.out.mot.lt g h).2, fun g h => (HL7.out.ord.lt g h).2⟩)
  have HKT := Lib.hid (show kt < w8.heap.size ∧ ∀ g, mt2.ownBlock = some g → g < w8.heap.size from ⟨(Array.getElem?_eq_some_iff.1 hT.cell).1, fun g h => (hT.mot.lt g h).2⟩)
  have HSZ := Lib.hid (show w.heap.size + 1 ≤ w6.heap.size ∧ w6.heap.size ≤ w7.heap.size ∧ w7.heap.size ≤ w8.heap.size from ⟨HSB.out, by have := (Array.getElem?_eq_some_iff.1 HL7.out.cell).1; exact Nat.le_of_lt (Nat.lt_of_le_of_lt HF.out.1 this), hw8.size⟩)
  clear hT hg1 hg2 hw8 HB7 HL7 HND H7
  have c0 := cellRow HB8.out 0 (.int .i64 m) rfl
  have c1 := cellRow HB8.out 1 (.int .i64 e0) rfl
  have HAL := Lib.hid (adv_ok w8 kb mv ov l 0 1 m e0 HL8.out HTT.out (by have := HV.out.2; omega))
  go_wp2_with fail
  refine HAL.out.mono ?_
  rintro e w9 ⟨r9, ov9, rfl, hO9, hL9, hov9, hw9⟩
  obtain ⟨a9, c9, rfl⟩ := own_shape hO9
  have h1 := HSZ.out
  have h2 := HKL.out
  have h3 := HF.out
  have h4 := HG.out
  have h5 := HKT.out
  have HB9 := Lib.hid (hw9.heap HB8.out (by omega))
  have HE9 : Hid (Ext w w9) := Lib.hid (H8.out.trans' hw9 (fun q hq e => by omega))
  have HL9 := Lib.hid (And.intro hL9 hov9)
  have HT9 := Lib.hid (HT8.out.kept hw9 (by omega) (fun g hg e => by have := h4.2 g hg; omega))
  have HS9 := Lib.hid hw9.size
  clear hL9 hov9 hO9 hw9 h1 h2 h3 h4 h5 c0 c1 HB8 HT8 HL8 HAL H8
  have c0 := cellRow HB9.out 0 (.int .i64 m) rfl
  have c1 := cellRow HB9.out 1 (.int .i64 e0) rfl
  have HAT := Lib.hid (tadv_ok w9 kt mt2 l 0 1 m e0 0 HT9.out HTT.out (by have := HV.out.2; omega) (by omega))
  rw [Nat.zero_add] at HAT
  go_wp2_with fail
  refine HAT.out.mono ?_
  rintro e wa ⟨rfl, hTa, hwa⟩
  have h1 := HSZ.out
  have h2 := HKL.out
  have h3 := HF.out
  have h4 := HG.out
  have h5 := HKT.out
  have h6 := HS9.out
  have HBa := Lib.hid (hwa.heap HB9.out (by omega))
  have HEa : Hid (Ext w wa) := Lib.hid (HE9.out.trans' hwa (fun q hq e => by omega))
  have HLa := Lib.hid (HL9.out.1.kept hwa (by omega) (fun g hg e => by have := h2.2.1 g hg; omega) (fun g hg e => by have := HL9.out.2 g hg; omega))
  have HTa := Lib.hid hTa
  have HSa := Lib.hid hwa.size
  clear hTa hwa h1 h2 h3 h4 h5 h6 c0 c1 HB9 HT9 HAT HE9
  go_wp2_with fail
  refine (OrderM_x wa kb mv ov9 l m e0 HLa.out).mono ?_
  rintro e wb ⟨rb, rfl, hOb, hwb⟩
  obtain ⟨gb, cb, rfl⟩ := own_some hOb HLN.out.1
  have HBb := Lib.hid (hwb.heap HBa.out (fun h => h))
  have HEb := Lib.hid (HEa.out.ext hwb)
  have HLb := Lib.hid (HLa.out.ext hwb)
  have HTb := Lib.hid (HTa.out.ext hwb)
  have HOb := Lib.hid hOb
  have hln := HLN.out
  have ob := own_cell hOb (l.length - 1) (by have := HLN.out.1; omega)
  rw [iCells_at _ _ (by rw [ordF_len]; omega)] at ob
  rw [show (ordF l m e0).getD (l.length - 1) 0 = wnF l m e0 from rfl] at ob
  have HEV : Hid (evG l m e0 l.length 0 1 (wnF l 0 1) < l.length) := Lib.hid (evG_64 m e0 HM.out HLN.out.1)
  have HWI := Lib.hid (fun W (hW : Ext wb W) => winner_x W kt mt2 l m e0 _ (HTb.out.ext hW))
  have HEI := Lib.hid (fun W (hW : Ext wb W) => events_x W kt mt2 l m e0 _ (HTb.out.ext hW))
  generalize evG l m e0 l.length 0 1 (wnF l 0 1) = EV at *
  generalize wnF l m e0 = WI at *
  have z0 : (0 : Int) ≤ (l.length : Int) - 1 := by omega
  have z1 : (l.length : Int) - 1 < (l.length : Int) := by omega
  have z2 : ((l.length : Int) - 1).toNat = l.length - 1 := by omega
  have z3 : IntKind.i64.wrap ((l.length : Int) - 1) = (l.length : Int) - 1 := IntWalk.i64_in _ (by omega)
  have z4 : decide ((EV : Int) < 0) = false := decide_eq_false (by omega)
  have z5 : decide ((l.length : Int) ≤ (EV : Int)) = false := decide_eq_false (by have := HEV.out; omega)
  have z5' : decide (l.length ≤ EV) = false := decide_eq_false (by have := HEV.out; omega)
  have z6 : (((l.length : Nat) : Int) != ((l.length : Nat) : Int)) = false := by simp
  have z7 : ((WI : Int) != (WI : Int)) = false := by simp
  clear hOb hwb HBa HEa HLa HTa HTb
  go_wp2_with fail
  refine (HWI.out _ (Upd.refl _ _)).mono ?_
  rintro e wc ⟨rfl, hwc⟩
  have HC := Lib.hid hwc
  clear hwc
  go_wp2_with fail
  refine (HEI.out _ HC.out).mono ?_
  rintro e wd ⟨rfl, hwd⟩
  have HD := Lib.hid (HC.out.ext hwd)
  clear hwd
  go_wp2_with fail
  refine (HEI.out _ HD.out).mono ?_
  rintro e we ⟨rfl, hwe⟩
  have HEE := Lib.hid (HD.out.ext hwe)
  clear hwe ob z0 z1 z2 z3 z4 HWI HEI
  have HEw := Lib.hid (HEb.out.ext HEE.out)
  have HLw := Lib.hid (HLb.out.ext HEE.out)
  have HOw := Lib.hid (own_kept HOb.out HEE.out (fun _ _ h => h))
  have HBw := Lib.hid (HEE.out.heap HBb.out (fun h => h))
  have HSw := Lib.hid (show w8.heap.size ≤ wa.heap.size from Nat.le_trans HS9.out HSa.out)
  clear HC HD HEE HEb HLb HOb HBb HS9 HSa
  have HFIN : Hid (∀ W, Ext w W → W.ownsRow wa.heap.size 3 1 (.slice (some ⟨gb, 0, none⟩) l.length cb) l.length (iCells (ordF l m e0)) → ∀ W2, Ext W W2 → ∀ r, W2.ownsRow W.heap.size 3 1 r l.length (iCells (ordF l m e0)) → Calls Try.prog 19 #[r, .slice (some ⟨gb, 0, none⟩) l.length cb] W2 fun e w' => e = .returned (.bool true) ∧ Ext W2 w') := Lib.hid (fun W hE hO W2 hE2 r hr => eqi_true (ordF l m e0) l.length W2 _ _ _ _ (ordF_len l m e0) (by have := HLN.out; omega) hr (own_kept hO hE2 (fun _ _ h => h)))
  by_cases hi0 : 0 ≤ i
  rotate_left
  · have u0 : decide (0 ≤ i) = false := decide_eq_false hi0
    have c0 := cellRow HBw.out 0 (.int .i64 m) rfl
    have c1 := cellRow HBw.out 1 (.int .i64 e0) rfl
    go_wp2_with fail
    refine (HOO.out _ HEw.out).mono ?_
    rintro e wy ⟨ry, rfl, hOy, hwy⟩
    have HCAy := Lib.hid (HFIN.out _ HEw.out HOw.out wy hwy ry hOy)
    obtain ⟨ay, cy, rfl⟩ := own_shape hOy
    have HEy := Lib.hid (HEw.out.ext hwy)
    clear hOy hwy c0 c1
    go_wp2_with fail
    refine HCAy.out.mono ?_
    rintro e wz ⟨rfl, hwz⟩
    have HEz := Lib.hid (HEy.out.ext hwz)
    clear hwz
    go_wp2_with fail
    go_ret
    exact ⟨rfl, HEz.out⟩
  have u0 : decide (0 ≤ i) = true := decide_eq_true hi0
  by_cases hi1 : i < (l.length : Int)
  rotate_left
  · have u1 : decide (i < (l.length : Int)) = false := decide_eq_false hi1
    have c0 := cellRow HBw.out 0 (.int .i64 m) rfl
    have c1 := cellRow HBw.out 1 (.int .i64 e0) rfl
    go_wp2_with fail
    refine (HOO.out _ HEw.out).mono ?_
    rintro e wy ⟨ry, rfl, hOy, hwy⟩
    have HCAy := Lib.hid (HFIN.out _ HEw.out HOw.out wy hwy ry hOy)
    obtain ⟨ay, cy, rfl⟩ := own_shape hOy
    have HEy := Lib.hid (HEw.out.ext hwy)
    clear hOy hwy c0 c1
    go_wp2_with fail
    refine HCAy.out.mono ?_
    rintro e wz ⟨rfl, hwz⟩
    have HEz := Lib.hid (HEy.out.ext hwz)
    clear hwz
    go_wp2_with fail
    go_ret
    exact ⟨rfl, HEz.out⟩
  have u1 : decide (i < (l.length : Int)) = true := decide_eq_true hi1
  obtain ⟨j, rfl⟩ : ∃ j : Nat, i = (j : Int) := ⟨i.toNat, by omega⟩
  have hjl : j < l.length := by omega
  have u2 : decide (j < l.length) = true := decide_eq_true hjl
  have hmo := HRL.out.1.ext HEw.out
  obtain ⟨g5, o5, rfl⟩ := hmo.at_ (by omega)
  have p1 := (hmo.cells hjl).2
  have HCS := Lib.hid (chE_same (n := m) (d := e0) HM.out hjl)
  have HCH := Lib.hid (change_all we kb mv ov9 l m e0 j (mg l j).2 HLw.out)
  rw [HCS.out.1, HCS.out.2] at HCH
  clear HCS hmo
  generalize (mg l j).2 = sp at *
  go_wp2_with fail
  refine HCH.out.mono ?_
  rintro e wf ⟨rfl, ovf, hLf, hovf, hwf⟩
  have h1 := HSZ.out
  have h2 := HKL.out
  have h3 := HF.out
  have h4 := HG.out
  have h6 := HSw.out
  have HEf : Hid (Ext w wf) := Lib.hid (HEw.out.trans' hwf (fun q hq e => by
    rcases e with e | e
    · omega
    · have := h3.2.1 q e; omega))
  have HLf := Lib.hid hLf
  have HOf := Lib.hid (own_kept HOw.out hwf (fun g hg e => by
    have h7 := (HOw.out.lt g hg).1
    rcases e with e | e
    · omega
    · have := h2.2.1 g e; omega))
  have HBf := Lib.hid (hwf.heap HBw.out (by
    rintro (e | e)
    · omega
    · have := h3.2.1 _ e; omega))
  clear hLf hovf hwf h1 h2 h3 h4 h6 p1 HCH HEw HOw HBw HLw
  go_wp2_with fail
  refine (OrderM_x wf kb mv ovf l m e0 HLf.out).mono ?_
  rintro e wg ⟨rg, rfl, hOg, hwg⟩
  have HCAg := Lib.hid (HFIN.out wf HEf.out HOf.out wg hwg rg hOg)
  obtain ⟨ag, cg, rfl⟩ := own_shape hOg
  have HFG := Lib.hid hwg
  clear hOg hwg
  go_wp2_with fail
  refine HCAg.out.mono ?_
  rintro e wh ⟨rfl, hwh⟩
  have HFH := Lib.hid (HFG.out.ext hwh)
  clear hwh HCAg HFG
  go_wp2_with fail
  refine (Motions_x wh kb mv ovf l m e0 (HLf.out.ext HFH.out)).mono ?_
  rintro e wi ⟨ri, rfl, hOi, hwi⟩
  have HFI := Lib.hid (HFH.out.ext hwi)
  have HEM := Lib.hid (eqm_true l wi _ S ri (.slice (some ⟨g5, o5, none⟩) l.length cap) (by have := HLN.out; omega) (MoR.own rfl hOi) (HRL.out.1.ext (HEf.out.ext HFI.out)))
  obtain ⟨ai, ci, rfl⟩ := own_shape hOi
  clear hOi hwi HFH
  go_wp2_with fail
  refine HEM.out.mono ?_
  rintro e we ⟨rfl, hwj⟩
  have HFJ := Lib.hid (HFI.out.ext hwj)
  clear hwj HEM HFI
  have HEw := Lib.hid (HEf.out.ext HFJ.out)
  have HOw := Lib.hid (own_kept HOf.out HFJ.out (fun _ _ h => h))
  have HBw := Lib.hid (HFJ.out.heap HBf.out (fun h => h))
  have c0 := cellRow HBw.out 0 (.int .i64 m) rfl
  have c1 := cellRow HBw.out 1 (.int .i64 e0) rfl
  go_wp2_with fail
  refine (HOO.out _ HEw.out).mono ?_
  rintro e wy ⟨ry, rfl, hOy, hwy⟩
  have HCAy := Lib.hid (HFIN.out _ HEw.out HOw.out wy hwy ry hOy)
  obtain ⟨ay, cy, rfl⟩ := own_shape hOy
  have HEy := Lib.hid (HEw.out.ext hwy)
  clear hOy hwy c0 c1
  go_wp2_with fail
  refine HCAy.out.mono ?_
  rintro e wz ⟨rfl, hwz⟩
  have HEz := Lib.hid (HEy.out.ext hwz)
  clear hwz
  go_wp2_with fail
  go_ret
  exact ⟨rfl, HEz.out⟩


end Go.Proofs.Ytncnojhbdkhcjaa
