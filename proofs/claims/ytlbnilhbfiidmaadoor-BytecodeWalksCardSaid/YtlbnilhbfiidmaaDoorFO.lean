/- Codes as they come in. -/
import Derived.Test.YtlbnilhbfiidmaaDoorA
import Derived.Lib.SmallJoins
import Derived.OpenShut
import Derived.Deep.SlicePairs
import Derived.ProofKit
import Derived.SizedLaws
namespace Go.Proofs.YtlbnilhbfiidmaaDoor
open Go.RowKit Go.Hw
set_option linter.unusedVariables false
set_option linter.unusedSimpArgs false

open Go.ChangeShapes Go.WideShapes Go.Deep Go.Joins Go.ChangeAt
set_option maxRecDepth 100000
theorem Tryd.own : ownKnob Tryd.prog.godebug = none := by kernel_rfl
theorem Tryd.laidOut : laidOutB Tryd.prog = true := by kernel_rfl
theorem cells25 : Tryd.prog.cellsOf 25 = 3 := by kernel_rfl
theorem cells39 : Tryd.prog.cellsOf 39 = 5 := by kernel_rfl
theorem cells46 : Tryd.prog.cellsOf 46 = 2 := by kernel_rfl
theorem cells3 : Tryd.prog.cellsOf 3 = 1 := by kernel_rfl
theorem cells9 : Tryd.prog.cellsOf 9 = 1 := by kernel_rfl
theorem cells4 : Tryd.prog.cellsOf 4 = 1 := by kernel_rfl
theorem cells37 : Tryd.prog.cellsOf 37 = 1 := by kernel_rfl
theorem bytes3 : Tryd.prog.bytesOf 3 = 8 := by kernel_rfl
theorem bytes46 : Tryd.prog.bytesOf 46 = 16 := by kernel_rfl
theorem bytes39 : 1 ≤ Tryd.prog.bytesOf 39 := of_decide_eq_true (by kernel_rfl)
theorem reach_is : reachBytes = 140737488351232 := rfl
def intOf : Value → Int
  | .int _ n => n
  | _ => 0
section
variable {H : Type} {enc : TypeId × Value → H} {W : World}
theorem weights_all {P : Program} {e : TypeId} {d : DataW H} {n : Nat} : ∀ {l : List (DataW H)}, d ∈ l → n ∈ d.weights P e → n ∈ DataW.weightsAll P e l
  | d0 :: r, h, hn => by
    simp only [DataW.weightsAll, List.mem_append]
    rcases List.mem_cons.1 h with rfl | h
    · exact .inl hn
    · exact .inr (weights_all h hn)
def Lgt (t : TypeId) (d : DataW H) : Prop := ∀ n ∈ d.weights Tryd.prog t, n ≤ reachBytes
theorem Lgt.slice {t e : TypeId} {elems spare : List (DataW H)} (ht : Tryd.prog.underlying t = some (.slice e)) (h : Lgt t (.slice elems spare)) :
    (elems.length + spare.length) * Tryd.prog.bytesOf e ≤ reachBytes ∧ ∀ d ∈ elems, Lgt e d := by
  unfold Lgt at h ⊢
  simp only [DataW.weights, ht, List.mem_cons, List.mem_append] at h
  exact ⟨h _ (.inl rfl), fun d hd n hn => h n (.inr (.inl (weights_all hd hn)))⟩
theorem Lgt.part {t : TypeId} {fs : Array Field} {parts : List (DataW H)} (ht : Tryd.prog.underlying t = some (.struct fs)) (h : Lgt t (.agg parts)) {j : Nat} {f : Field} {d : DataW H} (hf : fs.toList[j]? = some f) (hd : parts[j]? = some d) : Lgt f.type d := by
  unfold Lgt at h ⊢
  simp only [DataW.weights, ht] at h
  exact fun n hn => h n (DataW.weights_mem_each (by rw [List.getElem?_map, hf]; rfl) hd n hn)
theorem Lgt.str {t : TypeId} {l : List UInt8} (h : Lgt (H := H) t (.lit (.string l))) : l.length ≤ reachBytes := h _ (by simp [DataW.weights])
theorem ints_of {held : Bool} {fuel : Nat} {v : Value} {y : DataW H × List MemPlace} (h : DataW.trod enc Tryd.prog W 0 (fun _ => true) held fuel 22 [v] = some y) (hg : Lgt 22 y.1) :
    ∃ l : List Int, SlR Any1 W 1 v l.length (l.map (.int .i64)) ∧ l.length ≤ 140737488351232 ∧ ∀ x ∈ l, I64 x := by
  rcases open_ints Tryd.underlying22 Tryd.underlying3 cells3 h with ⟨hcs, _⟩ | ⟨a, len, cap, zs, hcs, _, hl, _, hz, hy, hall, hwf⟩
  · simp only [List.cons.injEq, and_true] at hcs
    subst hcs
    exact ⟨[], SlR.nil _ _ _, by simp, by simp⟩
  · simp only [List.cons.injEq, and_true] at hcs
    subst hcs
    simp only [if_true] at hz
    have hlen : (zs.take len).length = len := by rw [List.length_take]; omega
    rw [hy] at hg
    have hb := (hg.slice Tryd.underlying22).1
    rw [bytes3, reach_is] at hb
    simp only [lits, List.length_map, hlen] at hb
    refine ⟨zs.take len, ?_, by rw [hlen]; omega, fun x hx => bounds_i64 (hwf x (List.mem_of_mem_take hx))⟩
    rw [hlen]
    have hsp : 0 < len → a.spot = none := fun h0 => by
      have := World.cell?_spot (hall 0 (by omega))
      simpa [Addr.add] using this
    refine ⟨by rw [List.length_map, hlen]; omega, .inr ⟨a, cap, rfl, hl, fun h0 => ⟨hsp h0, trivial⟩, fun j hj => ?_⟩⟩
    have h1 := hall j (by omega)
    have h2 := hsp (by omega)
    obtain ⟨ab, ao, asp⟩ := a
    simp only at h2
    subst h2
    rw [add_plain] at h1
    rw [h1]
    have hj2 : j < zs.length := by omega
    have hj3 : j < len := by omega
    simp [hj2, hj3]
theorem code_of {held : Bool} {fuel : Nat} {v : Value} {y : DataW H × List MemPlace} (h : DataW.trod enc Tryd.prog W 0 (fun _ => true) held fuel 37 [v] = some y) (hg : Lgt 37 y.1) :
    ∃ l : List (Int × Int), SlR Any1 W 2 v l.length (insCells l) ∧ l.length ≤ 140737488351232 ∧ ∀ p ∈ l, I64 p.1 ∧ I64 p.2 := by
  rcases open_slice_pairs Tryd.underlying37 Tryd.underlying46 cells46 rfl rfl cells3 cells3 h with ⟨hcs, hx⟩ | ⟨a, len, cap, m, n, V0, V1, D0, D1, P0, P1, hcs, _, hl, hm, hmm, hx, hall⟩
  · simp only [List.cons.injEq, and_true] at hcs
    subst hcs
    exact ⟨[], SlR.nil _ _ _, by simp, by simp⟩
  · simp only [List.cons.injEq, and_true] at hcs
    subst hcs
    simp only [if_true] at hmm
    subst hmm
    rw [hx] at hg
    have hb := (hg.slice Tryd.underlying37).1
    rw [bytes46, reach_is] at hb
    simp only [List.length_map, List.length_range] at hb
    have hlen : ((List.range len).map fun i => (intOf (V0 i), intOf (V1 i))).length = len := by simp
    have hv : ∀ i, i < len → V0 i = .int .i64 (intOf (V0 i)) ∧ V1 i = .int .i64 (intOf (V1 i)) ∧ I64 (intOf (V0 i)) ∧ I64 (intOf (V1 i)) := fun i hi => by
      obtain ⟨_, _, t0, t1⟩ := hall i (by omega)
      obtain ⟨x0, e0, _, w0⟩ := DataW.trod_int Tryd.underlying3 t0
      obtain ⟨x1, e1, _, w1⟩ := DataW.trod_int Tryd.underlying3 t1
      simp only [List.cons.injEq, and_true] at e0 e1
      rw [e0, e1]
      exact ⟨rfl, rfl, bounds_i64 w0, bounds_i64 w1⟩
    have hsp : 0 < len → a.spot = none := fun h0 => by
      have := World.cell?_spot (hall 0 (by omega)).1
      simpa [Addr.add] using this
    refine ⟨(List.range len).map fun i => (intOf (V0 i), intOf (V1 i)), ?_, by rw [hlen]; omega, fun p hp => ?_⟩
    · rw [hlen]
      refine ⟨by rw [insCells_len, hlen], .inr ⟨a, m, rfl, hl, fun h0 => ⟨hsp h0, trivial⟩, fun j hj => ?_⟩⟩
      obtain ⟨q, r, hq, hr⟩ : ∃ q r, j = q * 2 + r ∧ r < 2 := ⟨j / 2, j % 2, by omega, by omega⟩
      subst hq
      have hqn : q < len := by omega
      obtain ⟨c0, c1, _, _⟩ := hall q (by omega)
      obtain ⟨g0, g1⟩ := insCells_get ((List.range len).map fun i => (intOf (V0 i), intOf (V1 i))) q (by rw [hlen]; exact hqn)
      have e : ((List.range len).map fun i => (intOf (V0 i), intOf (V1 i))).getD q (0, 0) = (intOf (V0 q), intOf (V1 q)) := by simp [hqn]
      rw [e] at g0 g1
      have h2 := hsp (by omega)
      obtain ⟨ab, ao, asp⟩ := a
      simp only at h2
      subst h2
      rw [add_plain] at c0 c1
      match r, hr with
      | 0, _ => rw [Nat.add_zero, c0, g0, ← (hv q hqn).1]
      | 1, _ => rw [c1, g1, ← (hv q hqn).2.1]
    · simp only [List.mem_map, List.mem_range] at hp
      obtain ⟨i, hi, rfl⟩ := hp
      exact (hv i hi).2.2
theorem func_of {held : Bool} {fuel : Nat} {cs : List Value} {y : DataW H × List MemPlace} (h : DataW.trod enc Tryd.prog W 0 (fun _ => true) held fuel 39 cs = some y) (hg : Lgt 39 y.1) :
    ∃ f : Fn, cs = fnCells f ∧ FnR W f := by
  obtain ⟨xs, n, _, hx, hcl, hxl, hf⟩ := DataW.trod_struct Tryd.underlying39 h
  rw [cells39] at hcl
  match cs, hcl, xs, hxl with
  | [v0, v1, v2, v3, v4], _, [y0, y1, y2, y3, y4], _ =>
    have g0 := hf 0 _ rfl
    have g1 := hf 1 _ rfl
    have g2 := hf 2 _ rfl
    have g3 := hf 3 _ rfl
    have g4 := hf 4 _ rfl
    simp [cells9, cells3, cells4, cells37] at g0 g1 g2 g3 g4
    rw [hx] at hg
    obtain ⟨s0, e0, d0, _⟩ := DataW.trod_string Tryd.underlying9 g0
    obtain ⟨x1, e1, _, w1⟩ := DataW.trod_int Tryd.underlying3 g1
    obtain ⟨x2, e2, _, w2⟩ := DataW.trod_int Tryd.underlying3 g2
    obtain ⟨x3, e3, _⟩ := DataW.trod_bool Tryd.underlying4 g3
    have l0 : Lgt 9 y0.1 := hg.part Tryd.underlying39 (j := 0) rfl rfl
    have l4 : Lgt 37 y4.1 := hg.part Tryd.underlying39 (j := 4) rfl rfl
    obtain ⟨l, hl, hll, hli⟩ := code_of g4 l4
    simp only [List.cons.injEq, and_true] at e0 e1 e2 e3
    subst e0; subst e1; subst e2; subst e3
    rw [d0] at l0
    have l0' := l0.str
    rw [reach_is] at l0'
    refine ⟨⟨s0, x1, x2, x3, l, v4⟩, rfl, hl, hll, ?_, bounds_i64 w2, hli⟩
    have : s0.data.toList.length = s0.size := rfl
    show s0.size ≤ _
    omega
theorem funcs_of {held : Bool} {fuel : Nat} {v : Value} {y : DataW H × List MemPlace} (h : DataW.trod enc Tryd.prog W 0 (fun _ => true) held fuel 23 [v] = some y) (hg : Lgt 23 y.1) :
    ∃ l : List Fn, SlR Any1 W 5 v l.length (fnsCells l) ∧ l.length ≤ 140737488351232 ∧ ∀ f ∈ l, FnR W f := by
  rcases open_slice Tryd.underlying23 h with ⟨hcs, hx⟩ | ⟨a, len, cap, m, n, D, Pl, hcs, _, hl, hm, hmm, hx, hall⟩
  · simp only [List.cons.injEq, and_true] at hcs
    subst hcs
    exact ⟨[], SlR.nil _ _ _, by simp, by simp⟩
  · simp only [List.cons.injEq, and_true] at hcs
    subst hcs
    simp only [if_true] at hmm
    subst hmm
    rw [hx] at hg
    obtain ⟨hb, hgd⟩ := hg.slice Tryd.underlying23
    rw [reach_is] at hb
    simp only [List.length_map, List.length_range] at hb
    have hA : ∀ i, ∃ f : Fn, i < len → (∃ cs', W.cells? 0 (a.add (i * 5)) 5 = some cs' ∧ cs' = fnCells f) ∧ FnR W f := fun i => by
      by_cases hi : i < len
      · obtain ⟨cs', h1, h2⟩ := hall i (by omega)
        rw [cells39] at h1
        obtain ⟨f, hf, hr⟩ := func_of h2 (hgd (D i) (by simp only [List.mem_map, List.mem_range]; exact ⟨i, hi, rfl⟩))
        exact ⟨f, fun _ => ⟨⟨cs', h1, hf⟩, hr⟩⟩
      · exact ⟨default, fun h => absurd h hi⟩
    obtain ⟨A, hA3⟩ := Classical.axiomOfChoice hA
    have hlen : ((List.range len).map A).length = len := by simp
    have hsp : 0 < len → a.spot = none := fun h0 => by
      obtain ⟨⟨cs', h1, _⟩, _⟩ := hA3 0 h0
      have h2 := (World.cells?_some h1).2.2 0 (by omega)
      have h3 : ∃ u, W.cell? ((a.add (0 * 5)).add 0) = some u := by
        have hl5 := (World.cells?_some h1).2.1
        exact ⟨cs'[0]'(by omega), by rw [h2]; simp [hl5]⟩
      obtain ⟨u, hu⟩ := h3
      have := World.cell?_spot hu
      simpa [Addr.add] using this
    refine ⟨(List.range len).map A, ?_, ?_, fun p hp => ?_⟩
    · rw [hlen]
      have hfl : ∀ l : List Fn, (fnsCells l).length = l.length * 5 := fun l => by
        induction l with
        | nil => rfl
        | cons p r ih =>
          have e : fnsCells (p :: r) = fnCells p ++ fnsCells r := rfl
          rw [e, List.length_append, ih, List.length_cons]
          show 5 + _ = _
          omega
      refine ⟨by rw [hfl, hlen], .inr ⟨a, m, rfl, hl, fun h0 => ⟨hsp h0, trivial⟩, fun j hj => ?_⟩⟩
      obtain ⟨q, r, hq, hr⟩ : ∃ q r, j = q * 5 + r ∧ r < 5 := ⟨j / 5, j % 5, by omega, by omega⟩
      subst hq
      have hqn : q < len := by omega
      obtain ⟨⟨cs', h1, hc⟩, _⟩ := hA3 q hqn
      have h2 := (World.cells?_some h1).2.2 r hr
      rw [fnsCells_get _ q r (by rw [hlen]; exact hqn) hr]
      have e : ((List.range len).map A).getD q default = A q := by simp [hqn]
      rw [e, ← hc, ← h2]
      have h4 := hsp (by omega)
      obtain ⟨ab, ao, asp⟩ := a
      simp only at h4
      subst h4
      rw [add_plain, add_plain, Nat.add_assoc]
    · rw [hlen]
      have := bytes39
      have : len ≤ (len + (m - len)) * Tryd.prog.bytesOf 39 := Nat.le_trans (Nat.le_add_right _ _) (Nat.le_mul_of_pos_right _ this)
      omega
    · simp only [List.mem_map, List.mem_range] at hp
      obtain ⟨i, hi, rfl⟩ := hp
      exact (hA3 i hi).2
theorem open_code {r : Reach} {b0 : Nat} {v : Value} {d : DataW H} {ps : List MemPlace} (hv : Value.okWide Tryd.prog W r b0 25 v) (h : DataW.Trod enc Tryd.prog W 0 (fun _ => true) true 25 v d ps) (hg : Lgt 25 d) :
    ∃ (a fv : Value) (c : Cd), v = .agg #[a, .int .i64 c.glob, fv] ∧ CdR W a fv c := by
  obtain ⟨v0, v1, v2, y0, y1, y2, n, rfl, rfl, _, h0, h1, h2⟩ := open_agg3 Tryd.underlying25 (by kernel_rfl) cells25 hv h
  obtain ⟨x1, e1, _, w1⟩ := DataW.trod_int Tryd.underlying3 h1
  simp only [List.cons.injEq, and_true] at e1
  subst e1
  obtain ⟨l, hl, hll, hli⟩ := ints_of h0 (hg.part Tryd.underlying25 (j := 0) rfl rfl)
  obtain ⟨F, hF, hFl, hFr⟩ := funcs_of h2 (hg.part Tryd.underlying25 (j := 2) rfl rfl)
  exact ⟨v0, v2, ⟨l, x1, F⟩, rfl, hl, hF, hFr, hll, hFl, bounds_i64 w1⟩
end

end Go.Proofs.YtlbnilhbfiidmaaDoor
