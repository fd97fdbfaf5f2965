/- The texts I39 L6 I18 I19 I40 TU, one behind the other. -/
import Derived.Test.YtiimccogojkldaaGreatDoorYAI
import Derived.Test.YtiimccogojkldaaGreatDoorYAB
import Derived.Test.YtiimccogojkldaaGreatDoorYAH
import Derived.Test.YtiimccogojkldaaGreatDoorYAA
/- knows. -/
namespace Go.Proofs.YtiimccogojkldaaGreatDoor
open Go.RowKit Go.Hw Go
set_option linter.unusedVariables false
set_option linter.unusedSimpArgs false

open Tm
theorem knows_mem (ops : List By) (t : Tm) : (∀ s ∈ sFoldO [] (opN t), s ∈ ops) ↔ knowsP ops t = true := by
  rw [knowsP_iff]
  constructor
  · intro h s hs
    exact h s (mem_sFoldO.2 (.inr hs))
  · intro h s hs
    rcases mem_sFoldO.1 hs with h1 | h1
    · cases h1
    · exact h s h1
set_option maxRecDepth 100000 in
set_option maxHeartbeats 2000000 in
theorem know_x (ops : List By) (L : List Tm) (ov v : Value) (S : Nat → Prop) (w : World) (hO : StR S w ov ops) (hR : TlR S w L v) (hS : ∀ k, S k → k < w.heap.size) (hol : ops.length ≤ 1000000) (hl : L.length ≤ 1000000) (hsz : ∀ t ∈ L, t.size ≤ 100000) :
    Calls Tryz.prog 41 #[ov, v] w fun e w' => e = .returned (.bool (L.all (knowsP ops))) ∧ Ext w w' := by
  obtain ⟨a, cap, rfl⟩ := hR.shape
  obtain ⟨oa, oc, rfl⟩ := SlR.shape hO
  have HR := Lib.hid hR
  have HO := Lib.hid hO
  have HSS := Lib.hid hS
  have HSZ := Lib.hid hsz
  clear hR hO hS hsz
  go_enter Tryz.func41, Tryz.ntmps41
  go_wp2_with fail
  go_loopg [11] L.length (fun gk iv wr => ∃ k : Nat, iv = .int .i64 (k : Int) ∧ gk = L.length - k ∧ k ≤ L.length ∧ Hid (Ext w wr) ∧ Hid ((L.take k).all (knowsP ops) = true))
  case atStart => exact ⟨0, rfl, rfl, Nat.zero_le _, Lib.hid (Upd.refl _ _), Lib.hid rfl⟩
  case round =>
    obtain ⟨k, rfl, rfl, hk, HE, HM⟩ := hrel
    by_cases hlt : k < L.length
    · obtain ⟨g, off, hga, _, hat⟩ := (HR.out.ext HE.out).at_ (by omega)
      subst hga
      obtain ⟨xa, xc, q0, q1, q2, hkid⟩ := hat k hlt
      rw [← Nat.add_assoc] at q1 q2
      have z0 : (0 : Int) ≤ (k : Int) := by omega
      have z1 : (k : Int) < (L.length : Int) := by omega
      have z2 : decide ((k : Int) < (L.length : Int)) = true := decide_eq_true z1
      have z2' : decide (k < L.length) = true := decide_eq_true hlt
      have hmem := tg_in hlt
      have hxs := HSZ.out _ hmem
      have HOP := Lib.hid (fun W (hW : Ext wr W) => opers_x W.heap.size (tg L k) [] (.slice none 0 0) _ S W List.Pairwise.nil ⟨rfl, .inl ⟨rfl, rfl⟩⟩ (TmR.ext ⟨xa, xc, rfl, hkid⟩ hW) (fun j hj => by have h1 := HSS.out j hj; have h2 := HE.out.size; have h3 := hW.size; omega) (Nat.le_refl _) (by show 0 + _ ≤ _; omega))
      have HN : Hid (knowsP ops (tg L k) = true → (L.take (k + 1)).all (knowsP ops) = true) := Lib.hid (fun h => by
        rw [tk_snoc L k hlt, List.all_append, HM.out, List.all_cons, List.all_nil, h]
        rfl)
      have HY : Hid (knowsP ops (tg L k) = false → L.all (knowsP ops) = false) := Lib.hid (fun h => by
        rw [Bool.eq_false_iff]
        intro h2
        rw [List.all_eq_true] at h2
        rw [h2 _ hmem] at h
        cases h)
      have HKM := Lib.hid (knows_mem ops (tg L k))
      have hml := sFoldO_len (opN (tg L k)) []
      have hol2 := opN_len (tg L k)
      obtain ⟨x, hx⟩ : ∃ x, tg L k = x := ⟨_, rfl⟩
      rw [hx] at q0 q1 q2 HOP HN HY HKM hml hol2 hxs
      dsimp only [tV] at HOP
      have hM : (sFoldO [] (opN x)).length ≤ 100000 := by simp only [List.length_nil] at hml; omega
      obtain ⟨M, hMM⟩ : ∃ M, sFoldO [] (opN x) = M := ⟨_, rfl⟩
      rw [hMM] at HOP HKM hM
      have hal : Ext wr (wr.alloc (.cells #[.string x.name, .string x.sort, .slice xa x.kids.length xc] 25)) := (Upd.refl _ wr).alloc _
      have HAL := Lib.hid hal
      have e0 := cellRow (alloc0 wr (.cells #[.string x.name, .string x.sort, .slice xa x.kids.length xc] 25)) 0 (.string x.name) rfl
      have e1 := cellRow (alloc0 wr (.cells #[.string x.name, .string x.sort, .slice xa x.kids.length xc] 25)) 1 (.string x.sort) rfl
      have e2 := cellRow (alloc0 wr (.cells #[.string x.name, .string x.sort, .slice xa x.kids.length xc] 25)) 2 (.slice xa x.kids.length xc) rfl
      clear hat hmem hx hMM hml hol2 hkid hal hxs HM
      go_wp2_with fail
      refine (HOP.out _ HAL.out).mono ?_
      rintro e w4 ⟨r, rfl, hr, hu4, _⟩
      have HX4 : Hid (Ext wr w4) := Lib.hid (HAL.out.trans' hu4 (fun j hj e => by simp [Value.ownBlock] at e))
      have H4 := Lib.hid (HE.out.trans HX4.out)
      have HMR : Hid (StR (fun _ => True) w4 r M) := Lib.hid (own_str (S := fun _ => True) hr)
      obtain ⟨ra, rc, hrv⟩ := own_shape hr
      subst hrv
      clear hr hu4 q0 q1 q2 e0 e1 e2 HOP HAL
      go_wp2_with fail
      obtain ⟨wa, hwa⟩ : ∃ wa, wa = w4 := ⟨_, rfl⟩
      have HR0 : Hid (Ext wa w4) := Lib.hid (by rw [hwa]; exact Upd.refl _ _)
      rw [← hwa] at H4 HMR
      clear hwa
      go_loopg [18] M.length (fun gk jv wr => ∃ j : Nat, jv = .int .i64 (j : Int) ∧ gk = M.length - j ∧ j ≤ M.length ∧ Hid (∀ i, i < j → bg M i ∈ ops) ∧ Hid (Ext wa wr))
      case atStart => exact ⟨0, rfl, rfl, Nat.zero_le _, Lib.hid (fun i h => absurd h (Nat.not_lt_zero _)), HR0⟩
      case round =>
        clear HR0
        obtain ⟨j, rfl, rfl, hj, HC, HE2⟩ := hrel
        by_cases hltj : j < M.length
        · obtain ⟨g2, off2, hg2, _, hat2⟩ := StR.at_ (StR.ext HMR.out HE2.out) (by omega)
          subst hg2
          have p0 := hat2 j hltj
          have y0 : (0 : Int) ≤ (j : Int) := by omega
          have y1 : (j : Int) < (M.length : Int) := by omega
          have y2 : decide ((j : Int) < (M.length : Int)) = true := decide_eq_true y1
          have y2' : decide (j < M.length) = true := decide_eq_true hltj
          have hmj : bg M j ∈ M := by unfold bg; rw [List.getD_eq_getElem?_getD, List.getElem?_eq_getElem hltj]; exact List.getElem_mem hltj
          have HKN : Hid (bg M j ∉ ops → knowsP ops x = false) := Lib.hid (fun h => by
            rw [Bool.eq_false_iff]
            exact fun h2 => h (HKM.out.2 h2 _ hmj))
          obtain ⟨y, hy⟩ : ∃ y, bg M j = y := ⟨_, rfl⟩
          have HYY := Lib.hid hy
          rw [hy] at p0 HKN
          have HCX := Lib.hid (con_x ops y _ S wr (SlR.kept HO.out (H4.out.trans HE2.out) (fun _ _ h => h)) hol)
          clear hat2 hmj hy
          by_cases hm : y ∈ ops
          · have hmd : decide (y ∈ ops) = true := decide_eq_true hm
            rw [hmd] at HCX
            have HN2 : Hid (∀ i, i < j + 1 → bg M i ∈ ops) := Lib.hid (fun i hi => by
              rcases Nat.lt_succ_iff_lt_or_eq.1 hi with h5 | h5
              · exact HC.out i h5
              · rw [h5, HYY.out]; exact hm)
            clear hmd hm
            go_wp2_with fail
            refine HCX.out.mono ?_
            rintro e w5 ⟨rfl, hw5⟩
            have H5 := Lib.hid (HE2.out.trans hw5)
            clear hw5 p0
            go_wp2_with fail
            go_roundg (M.length - (j + 1))
            case measure => omega
            case rel => exact ⟨j + 1, by go_num, rfl, by omega, HN2, H5⟩
          · have hmd : decide (y ∈ ops) = false := decide_eq_false hm
            rw [hmd] at HCX
            have HV := Lib.hid (HY.out (HKN.out hm))
            clear hmd hm
            go_wp2_with fail
            refine HCX.out.mono ?_
            rintro e w5 ⟨rfl, hw5⟩
            have H5 := Lib.hid ((H4.out.trans HE2.out).trans hw5)
            clear hw5 p0
            go_wp2_with fail
            go_ret
            rw [HV.out]
            exact ⟨rfl, H5.out⟩
        · obtain rfl : j = M.length := by omega
          have y2 : decide ((M.length : Int) < (M.length : Int)) = false := decide_eq_false (by omega)
          have HKT : Hid (knowsP ops x = true) := Lib.hid (HKM.out.1 (fun s hs => by
            obtain ⟨i, hi, rfl⟩ := List.mem_iff_getElem.1 hs
            have := HC.out i hi
            unfold bg at this
            rwa [List.getD_eq_getElem?_getD, List.getElem?_eq_getElem hi] at this))
          have HN3 := Lib.hid (HN.out HKT.out)
          have H6 := Lib.hid (H4.out.trans HE2.out)
          go_wp2_with fail
          go_roundg (L.length - (k + 1))
          case measure => omega
          case rel => exact ⟨k + 1, by go_num, rfl, by omega, H6, HN3⟩
    · obtain rfl : k = L.length := by omega
      have z2 : decide ((L.length : Int) < (L.length : Int)) = false := decide_eq_false (by omega)
      have HM2 := HM.out
      rw [List.take_length] at HM2
      have HM3 := Lib.hid HM2
      clear HM2
      go_wp2_with fail
      go_ret
      rw [HM3.out]
      exact ⟨rfl, HE.out⟩

end Go.Proofs.YtiimccogojkldaaGreatDoor

/- Arrays of a call's own: a block whose first cells are known. -/
namespace Go.Hw
open Go.RowKit
set_option linter.unusedVariables false
set_option linter.unusedSimpArgs false

/-- block b holds vs, and perhaps more behind them -/
def Arr (w : World) (b : Nat) (T : TypeId) (vs : List Value) : Prop := ∃ cur : Array Value, w.heap[b]? = some (.cells cur T (0, 0)) ∧ ∀ (j : Nat) (v : Value), vs[j]? = some v → cur[j]? = some v
theorem Arr.lt {w : World} {b : Nat} {T : TypeId} {vs : List Value} (h : Arr w b T vs) : b < w.heap.size := by
  obtain ⟨cur, hb, _⟩ := h
  exact (Array.getElem?_eq_some_iff.1 hb).1
theorem Arr.cell {w : World} {b : Nat} {T : TypeId} {vs : List Value} (h : Arr w b T vs) {j : Nat} {v : Value} (hv : vs[j]? = some v) : w.cell? ⟨b, j, none⟩ = some v := by
  obtain ⟨cur, hb, hc⟩ := h
  exact cellRow hb j v (hc j v hv)
theorem Arr.cell0 {w : World} {b : Nat} {T : TypeId} {vs : List Value} (h : Arr w b T vs) {j : Nat} {v : Value} (hv : vs[j]? = some v) : w.cell? ⟨b, 0 + j, none⟩ = some v := by
  rw [Nat.zero_add]; exact h.cell hv
theorem Arr.mark {w : World} {b : Nat} {T : TypeId} {vs : List Value} (h : Arr w b T vs) (j : Nat) : w.frozen? ⟨b, j, none⟩ = false := by
  obtain ⟨cur, hb, hc⟩ := h
  exact frozenRow hb j
theorem Arr.kept {F : Nat → Prop} {w w' : World} {b : Nat} {T : TypeId} {vs : List Value} (h : Arr w b T vs) (hu : Upd F w w') (hF : ¬ F b) : Arr w' b T vs := by
  obtain ⟨cur, hb, hc⟩ := h
  exact ⟨cur, hu.heap hb hF, hc⟩
theorem Arr.set {w : World} {b : Nat} {T : TypeId} {vs : List Value} (h : Arr w b T vs) {j : Nat} (hj : j < vs.length) (u : Value) : Arr (w.setCell ⟨b, j, none⟩ u) b T (vs.set j u) := by
  obtain ⟨cur, hb, hc⟩ := h
  have hsz : j < cur.size := by
    have := hc j vs[j] (by simp [hj])
    exact (Array.getElem?_eq_some_iff.1 this).1
  refine ⟨_, setBlock hb j u, fun i v hi => ?_⟩
  by_cases e : i = j
  · subst e
    rw [List.getElem?_set_self hj] at hi
    rw [← hi]
    simp [hsz]
  · rw [List.getElem?_set_ne (Ne.symm e)] at hi
    have := hc i v hi
    rw [← this]
    simp [Array.getElem?_setIfInBounds, Ne.symm e]
theorem Arr.new (w : World) (T : TypeId) (cs : Array Value) : Arr (w.alloc (.cells cs T)) w.heap.size T cs.toList :=
  ⟨cs, alloc0 w _, fun j v h => by simpa using h⟩
theorem Arr.ofOwn {w : World} {base e n : Nat} {v : Value} {cs : List Value} (h : w.ownsRow base e 1 v n cs) (hn : 0 < n) :
    ∃ g cap, v = .slice (some ⟨g, 0, none⟩) n cap ∧ n ≤ cap ∧ base ≤ g ∧ Arr w g e cs := by
  obtain ⟨hl, ⟨_, h2⟩ | ⟨g, cap, cur, hv, hb, hg, hc, hm, hs, ht⟩⟩ := h
  · omega
  · refine ⟨g, cap, hv, hc, hb, cur, hg, fun j u hu => ?_⟩
    rw [← ht] at hu
    rw [List.getElem?_take] at hu
    split at hu
    · simpa using hu
    · cases hu
theorem Arr.slR {w : World} {b T : Nat} {vs : List Value} (h : Arr w b T vs) {cap : Nat} (hc : vs.length ≤ cap) {S : Nat → Prop} (hS : S b) : SlR S w 1 (.slice (some ⟨b, 0, none⟩) vs.length cap) vs.length vs :=
  SlR.mk' (by simp) rfl hc (fun _ => hS) (fun j hj => by
    have hj' : j < vs.length := by omega
    rw [Nat.zero_add, h.cell (v := vs[j]) (by simp [hj'])]
    simp [hj'])
theorem updAt {w : World} {g j : Nat} (u : Value) : Upd (fun k => k = g) w (w.setCell ⟨g, j, none⟩ u) := (Upd.refl (fun k => k = g) w).setCell (p := ⟨g, j, none⟩) (.inl rfl) u
end Go.Hw

/- Above of the reference: the table. -/
namespace Go.Proofs.YtiimccogojkldaaGreatDoor
open Go.RowKit Go.Hw Go
set_option linter.unusedVariables false
set_option linter.unusedSimpArgs false

open Tm
theorem made_list (z : Value) (c : Nat) : madeCells #[z] c = (List.replicate c z).toArray := by
  apply Array.ext
  · simp [size_madeCells]
  · intro i h1 h2
    have := made_get z c i (by rw [size_madeCells] at h1; exact h1)
    rw [Array.getElem?_eq_getElem h1] at this
    simp at this ⊢
    exact this
/-- the table of the rows that are done -/
structure TbJ (n0 m : Nat) (r : By → Nat) (X Y : List Nt) (w6 wr : World) (tv : Value) (i : Nat) (us : List Value) (tab : List (List Bool)) (Q : Nat → Prop) : Prop where
  ul : us.length = i
  tl : tab.length = i
  own : wr.ownsRow n0 121 1 tv i us
  rows : ∀ p, p < i → (tab.getD p []).length = m ∧ SlR Q wr 1 (ug us p) m ((tab.getD p []).map Value.bool)
  q : ∀ k, Q k → n0 ≤ k ∧ k < wr.heap.size ∧ tv.ownBlock ≠ some k
  val : ∀ p, p < i → ∀ q, q < m → bt tab p q = gt r (ng X p).1 (ng Y q).1
  ext : Ext w6 wr
  hn : n0 = w6.heap.size
/-- the table while a row is under way -/
structure RwJ (n0 m : Nat) (r : By → Nat) (X Y : List Nt) (w6 wr : World) (tv : Value) (i : Nat) (us : List Value) (tab : List (List Bool)) (Q : Nat → Prop) (g : Nat) (row : List Bool) (j : Nat) : Prop where
  ul : us.length = i
  tl : tab.length = i
  own : wr.ownsRow n0 121 1 tv (i + 1) (us ++ [.slice (some ⟨g, 0, none⟩) m m])
  rows : ∀ p, p < i → (tab.getD p []).length = m ∧ SlR Q wr 1 (ug us p) m ((tab.getD p []).map Value.bool)
  q : ∀ k, Q k → n0 ≤ k ∧ k < wr.heap.size ∧ tv.ownBlock ≠ some k ∧ k ≠ g
  val : ∀ p, p < i → ∀ q, q < m → bt tab p q = gt r (ng X p).1 (ng Y q).1
  ext : Ext w6 wr
  hn : n0 = w6.heap.size
  gn : n0 ≤ g ∧ tv.ownBlock ≠ some g
  arr : Arr wr g 4 (row.map Value.bool)
  rl : row.length = m
  cur : ∀ q, q < j → row.getD q false = gt r (ng X i).1 (ng Y q).1
section
variable {n0 m : Nat} {r : By → Nat} {X Y : List Nt} {w6 wr wq wb w8 : World} {tv tv' : Value} {i j g : Nat} {us : List Value} {tab : List (List Bool)} {Q : Nat → Prop} {row : List Bool}
theorem TbJ.start (h : n0 = w6.heap.size) : TbJ n0 m r X Y w6 w6 (.slice none 0 0) 0 [] [] (fun _ => False) :=
  ⟨rfl, rfl, ⟨rfl, .inl ⟨rfl, rfl⟩⟩, fun p h => absurd h (Nat.not_lt_zero _), fun k h => h.elim, fun p h => absurd h (Nat.not_lt_zero _), Upd.refl _ _, h⟩
theorem TbJ.open_ (h : TbJ n0 m r X Y w6 wr tv i us tab Q) (hg : g = wr.heap.size) (ha : Arr wq g 4 ((List.replicate m false).map Value.bool)) (hq : Ext wr wq) (hb : Ext wq wb) (hG : Grew n0 121 1 tv (i + 1) (us ++ [.slice (some ⟨g, 0, none⟩) m m]) wb w8 tv') :
    RwJ n0 m r X Y w6 w8 tv' i us tab Q g (List.replicate m false) 0 := by
  have hlt := fun k hk => (h.own.lt k hk)
  have hu : Upd (fun k => tv.ownBlock = some k) wr w8 := ((Upd.refl _ wr).ext (hq.trans hb)).trans' hG.upd (fun _ _ x => x)
  have hgs : g < wb.heap.size := Nat.lt_of_lt_of_le ha.lt hb.size
  have hw6 := h.ext.size
  have hwq := hq.size
  have hwb := hb.size
  have hown : ∀ k, k < wb.heap.size → tv.ownBlock ≠ some k → tv'.ownBlock ≠ some k := fun k hk hn e => by
    rcases hG.where_ with e1 | e1
    · rw [e1] at e; exact hn e
    · rw [e1] at e; injection e with e; omega
  have htg : tv.ownBlock ≠ some g := fun e => by
    rcases h.own.2 with ⟨e1, _⟩ | ⟨g', cap, cur, rfl, hb', hg', _⟩
    · rw [e1] at e; simp [Value.ownBlock] at e
    · simp only [Value.ownBlock, Option.some.injEq] at e
      have := (Array.getElem?_eq_some_iff.1 hg').1
      omega
  refine ⟨h.ul, h.tl, hG.own, fun p hp => ⟨(h.rows p hp).1, (h.rows p hp).2.kept hu (fun k hk e => (h.q k hk).2.2 e)⟩, fun k hk => ?_, h.val, h.ext.trans' hu (fun k hk e => ?_), h.hn, ⟨by rw [h.hn, hg]; exact hw6, hown g hgs htg⟩, (ha.kept hb (fun h => h)).kept hG.upd htg, by simp, fun q hq => absurd hq (Nat.not_lt_zero _)⟩
  · obtain ⟨q1, q2, q3⟩ := h.q k hk
    exact ⟨q1, Nat.lt_of_lt_of_le q2 hu.size, hown k (by omega) q3, by omega⟩
  · have := (hlt k e).1
    rw [h.hn] at this
    omega
theorem RwJ.read (h : RwJ n0 m r X Y w6 wr tv i us tab Q g row j) : LlR Value.bool (fun _ => True) wr tv (tab ++ [row]) := by
  have hl : (us ++ [(.slice (some ⟨g, 0, none⟩) m m : Value)]).length = (tab ++ [row]).length := by simp [h.ul, h.tl]
  refine ⟨us ++ [(.slice (some ⟨g, 0, none⟩) m m : Value)], hl, ?_, fun p hp => ?_⟩
  · have := SlR.of_own h.own
    rw [show (tab ++ [row]).length = i + 1 by simp [h.tl]]
    exact this.weaken (fun _ _ => trivial)
  · rw [List.length_append, List.length_singleton, h.tl] at hp
    by_cases hpi : p < i
    · obtain ⟨r1, r2⟩ := h.rows p hpi
      rw [show (tab ++ [row]).getD p [] = tab.getD p [] by rw [List.getD_eq_getElem?_getD, List.getD_eq_getElem?_getD, List.getElem?_append_left (by rw [h.tl]; exact hpi)]]
      rw [ug_left _ (by rw [h.ul]; exact hpi), r1]
      exact r2.weaken (fun _ _ => trivial)
    · obtain rfl : p = i := by omega
      rw [show (tab ++ [row]).getD p [] = row by rw [List.getD_eq_getElem?_getD, ← h.tl, List.getElem?_concat_length]; rfl]
      have hu : ug (us ++ [.slice (some ⟨g, 0, none⟩) m m]) p = (.slice (some ⟨g, 0, none⟩) m m : Value) := by rw [← h.ul]; exact ug_last us _
      rw [hu, h.rl]
      have := h.arr.slR (cap := m) (by simp [h.rl]) (S := fun _ => True) trivial
      rw [List.length_map, h.rl] at this
      exact this
theorem RwJ.step (h : RwJ n0 m r X Y w6 wr tv i us tab Q g row j) (hj : j < m) (hq : Ext wr wq) : RwJ n0 m r X Y w6 (wq.setCell ⟨g, j, none⟩ (.bool (gt r (ng X i).1 (ng Y j).1))) tv i us tab Q g (row.set j (gt r (ng X i).1 (ng Y j).1)) (j + 1) := by
  have hu : Upd (fun k => k = g) wr (wq.setCell ⟨g, j, none⟩ (.bool (gt r (ng X i).1 (ng Y j).1))) := ((Upd.refl _ wr).ext hq).trans (updAt _)
  have hgs : w6.heap.size ≤ g := by have := h.gn.1; rw [h.hn] at this; exact this
  refine ⟨h.ul, h.tl, own_kept h.own hu (fun k hk e => h.gn.2 (by rw [← e]; exact hk)), fun p hp => ⟨(h.rows p hp).1, (h.rows p hp).2.kept hu (fun k hk => (h.q k hk).2.2.2)⟩, fun k hk => ⟨(h.q k hk).1, Nat.lt_of_lt_of_le (h.q k hk).2.1 hu.size, (h.q k hk).2.2⟩, h.val, h.ext.trans' hu (fun k hk e => by omega), h.hn, h.gn, ?_, by simp [h.rl], fun q hq2 => ?_⟩
  · have := (h.arr.kept hq (fun h => h)).set (j := j) (by simp [h.rl, hj]) (.bool (gt r (ng X i).1 (ng Y j).1))
    rw [← List.map_set] at this
    exact this
  · by_cases hqj : q = j
    · subst hqj
      rw [List.getD_eq_getElem?_getD, List.getElem?_set_self (by rw [h.rl]; exact hj)]
      rfl
    · rw [List.getD_eq_getElem?_getD, List.getElem?_set_ne (Ne.symm hqj), ← List.getD_eq_getElem?_getD]
      exact h.cur q (by omega)
theorem RwJ.close (h : RwJ n0 m r X Y w6 wr tv i us tab Q g row m) : TbJ n0 m r X Y w6 wr tv (i + 1) (us ++ [.slice (some ⟨g, 0, none⟩) m m]) (tab ++ [row]) (fun k => Q k ∨ k = g) := by
  have hgl : ∀ p, p < i → (tab ++ [row]).getD p [] = tab.getD p [] := fun p hp => by rw [List.getD_eq_getElem?_getD, List.getD_eq_getElem?_getD, List.getElem?_append_left (by rw [h.tl]; exact hp)]
  have hgr : (tab ++ [row]).getD i [] = row := by rw [List.getD_eq_getElem?_getD, ← h.tl, List.getElem?_concat_length]; rfl
  refine ⟨by simp [h.ul], by simp [h.tl], h.own, fun p hp => ?_, fun k hk => ?_, fun p hp q hq => ?_, h.ext, h.hn⟩
  · by_cases hpi : p < i
    · rw [hgl p hpi, ug_left _ (by rw [h.ul]; exact hpi)]
      exact ⟨(h.rows p hpi).1, (h.rows p hpi).2.weaken (fun _ h => .inl h)⟩
    · obtain rfl : p = i := by omega
      have hu : ug (us ++ [.slice (some ⟨g, 0, none⟩) m m]) p = (.slice (some ⟨g, 0, none⟩) m m : Value) := by rw [← h.ul]; exact ug_last us _
      rw [hgr, hu]
      have := h.arr.slR (cap := m) (by simp [h.rl]) (S := fun k => Q k ∨ k = g) (.inr rfl)
      rw [List.length_map, h.rl] at this
      exact ⟨h.rl, this⟩
  · rcases hk with hk | rfl
    · exact ⟨(h.q k hk).1, (h.q k hk).2.1, (h.q k hk).2.2.1⟩
    · exact ⟨h.gn.1, h.arr.lt, h.gn.2⟩
  · unfold bt
    by_cases hpi : p < i
    · rw [hgl p hpi]; exact h.val p hpi q hq
    · obtain rfl : p = i := by omega
      rw [hgr]; exact h.cur q hq
theorem TbJ.read (h : TbJ n0 m r X Y w6 wr tv i us tab Q) : LlR Value.bool (fun _ => True) wr tv tab := by
  refine ⟨us, by rw [h.ul, h.tl], ?_, fun p hp => ?_⟩
  · have := SlR.of_own h.own
    rw [h.tl]
    exact this.weaken (fun _ _ => trivial)
  · rw [h.tl] at hp
    obtain ⟨r1, r2⟩ := h.rows p hp
    rw [r1]
    exact r2.weaken (fun _ _ => trivial)
end
theorem infoR : (Tryz.prog.info? 121).map (fun i => (i.zero, i.size, i.bytes)) = some (some (.slice none 0 0), 1, 24) := by kernel_rfl
theorem infoB : (Tryz.prog.info? 4).map (fun i => (i.zero, i.size, i.bytes)) = some (some (.bool false), 1, 1) := by kernel_rfl
theorem sub_ok {t a : Tm} (h : t ∈ sbts a) : t.size ≤ a.size ∧ (∀ x ∈ sbts t, x ∈ sbts a) := by
  have key : ∀ a : Tm, ∀ t ∈ sbts a, t.size ≤ a.size ∧ ∀ x ∈ sbts t, x ∈ sbts a := by
    refine Tm.ind (fun n s L ih => ?_)
    intro t ht
    rw [sbts_eq] at ht
    rcases List.mem_cons.1 ht with h | h
    · rw [h]; exact ⟨Nat.le_refl _, fun x hx => hx⟩
    · obtain ⟨k, hk, hk2⟩ := List.mem_flatMap.1 h
      obtain ⟨h1, h2⟩ := ih k hk t hk2
      have := size_kid (t := .mk n s L) hk
      exact ⟨by omega, fun x hx => by rw [sbts_eq]; exact List.mem_cons_of_mem _ (List.mem_flatMap.2 ⟨k, hk, h2 x hx⟩)⟩
  exact key a t h
set_option maxRecDepth 100000 in
set_option maxHeartbeats 2000000 in
theorem rabove_x (ops : List By) (a b : Tm) (ov va vb : Value) (S : Nat → Prop) (w : World) (hO : StR S w ov ops) (ha : TmR S w a va) (hb : TmR S w b vb) (hS : ∀ k, S k → k < w.heap.size) (hza : a.size ≤ 1000) (hzb : b.size ≤ 1000) (hna : NoP a) (hnb : NoP b)
    (hka : ∀ s ∈ opN a, s ∈ ops) (hkb : ∀ s ∈ opN b, s ∈ ops) (hol : ops.length ≤ 1000000) :
    Calls Tryz.prog 44 #[ov, va, vb] w fun e w' => e = .returned (.bool (gt (ixF ops) a b)) ∧ Ext w w' := by
  have HO := Lib.hid hO
  have HTA := Lib.hid ha
  have HTB := Lib.hid hb
  have HNA := Lib.hid hna
  have HNB := Lib.hid hnb
  have HKA := Lib.hid hka
  have HKB := Lib.hid hkb
  have HSS := Lib.hid hS
  obtain ⟨oa, oc, rfl⟩ := SlR.shape hO
  obtain ⟨aa, ac, rfl, _⟩ := ha
  obtain ⟨ba, bc, rfl, _⟩ := hb
  dsimp only [tV] at HTA HTB ⊢
  have HZ : Hid (Ext w ((w.alloc (.cells #[.string a.name, .string a.sort, .slice aa a.kids.length ac] 25)).alloc (.cells #[.string b.name, .string b.sort, .slice ba b.kids.length bc] 25))) := Lib.hid (((Upd.refl (fun _ => False) w).alloc _).alloc _)
  have HB4 : Hid (((w.alloc (.cells #[.string a.name, .string a.sort, .slice aa a.kids.length ac] 25)).alloc (.cells #[.string b.name, .string b.sort, .slice ba b.kids.length bc] 25)).heap[w.heap.size]? = some (.cells #[.string a.name, .string a.sort, .slice aa a.kids.length ac] 25 (0, 0))) := Lib.hid (allocOld (alloc0 w (.cells #[.string a.name, .string a.sort, .slice aa a.kids.length ac] 25)) (.cells #[.string b.name, .string b.sort, .slice ba b.kids.length bc] 25))
  have HB5 : Hid (((w.alloc (.cells #[.string a.name, .string a.sort, .slice aa a.kids.length ac] 25)).alloc (.cells #[.string b.name, .string b.sort, .slice ba b.kids.length bc] 25)).heap[w.heap.size + 1]? = some (.cells #[.string b.name, .string b.sort, .slice ba b.kids.length bc] 25 (0, 0))) := Lib.hid (alloc_at (w.alloc (.cells #[.string a.name, .string a.sort, .slice aa a.kids.length ac] 25)) (.cells #[.string b.name, .string b.sort, .slice ba b.kids.length bc] 25) (n := w.heap.size + 1) (by simp))
  have HADDA := Lib.hid (fun W (hW : Ext w W) => radd_x a [] (.slice none 0 0) (.slice none 0 0) _ (fun _ => False) (fun _ => False) S w.heap.size W (SubR.nil _ _ _ _ HSS.out) (HTA.out.ext hW) hW.size (fun j h => h.elim) (by show 0 + a.size ≤ 100000; omega))
  have HADDB := Lib.hid (fun W (hW : Ext w W) => radd_x b [] (.slice none 0 0) (.slice none 0 0) _ (fun _ => False) (fun _ => False) S w.heap.size W (SubR.nil _ _ _ _ HSS.out) (HTB.out.ext hW) hW.size (fun j h => h.elim) (by show 0 + b.size ≤ 100000; omega))
  have a0 := cellRow HB4.out 0 (.string a.name) rfl
  have a1 := cellRow HB4.out 1 (.string a.sort) rfl
  have a2 := cellRow HB4.out 2 (.slice aa a.kids.length ac) rfl
  clear hO hna hnb hka hkb hS
  go_enter Tryz.func44, Tryz.ntmps44
  go_wp2_with fail
  refine (HADDA.out _ HZ.out).mono ?_
  rintro e w3 ⟨lx, kx, X, BX_, rfl, hs3, hu3, hb3, hp3, hc3, hx3, hm3⟩
  have HE3 : Hid (Ext w w3) := Lib.hid (HZ.out.trans hu3)
  have HSX := Lib.hid hs3.read
  have HXN := Lib.hid hs3.num
  have HXL : Hid (X.length = a.size) := Lib.hid (by rw [hc3]; exact Nat.zero_add _)
  have HXE := Lib.hid hx3
  have HXM := Lib.hid (fun i (h : i < X.length) => hm3 i (Nat.zero_le _) h)
  have HB53 := Lib.hid (hu3.heap HB5.out (fun h => h))
  obtain ⟨xa, xc, xka, xkc, hl3, hk3⟩ := hs3.shape
  subst hl3; subst hk3
  clear hs3 hu3 hb3 hp3 hc3 hx3 hm3 a0 a1 a2 HB4 HB5 HZ HADDA
  have b0 := cellRow (allocOld HB53.out (.cells #[.slice xa X.length xc, .slice xka X.length xkc] 118)) 0 (.string b.name) rfl
  have b1 := cellRow (allocOld HB53.out (.cells #[.slice xa X.length xc, .slice xka X.length xkc] 118)) 1 (.string b.sort) rfl
  have b2 := cellRow (allocOld HB53.out (.cells #[.slice xa X.length xc, .slice xka X.length xkc] 118)) 2 (.slice ba b.kids.length bc) rfl
  have HE4 : Hid (Ext w (w3.alloc (.cells #[.slice xa X.length xc, .slice xka X.length xkc] 118))) := Lib.hid (HE3.out.alloc _)
  have HBX4 : Hid ((w3.alloc (.cells #[.slice xa X.length xc, .slice xka X.length xkc] 118)).heap[w3.heap.size]? = some (.cells #[.slice xa X.length xc, .slice xka X.length xkc] 118 (0, 0))) := Lib.hid (alloc0 w3 (.cells #[.slice xa X.length xc, .slice xka X.length xkc] 118))
  go_wp2_with fail
  refine (HADDB.out _ HE4.out).mono ?_
  rintro e w5 ⟨ly, ky, Y, BY_, rfl, hs5, hu5, hb5, hp5, hc5, hx5, hm5⟩
  have HE5 : Hid (Ext w w5) := Lib.hid (HE4.out.trans hu5)
  have HYX : Hid (Ext w3 w5) := Lib.hid (((Upd.refl (fun _ => False) w3).alloc (.cells #[.slice xa X.length xc, .slice xka X.length xkc] 118)).trans hu5)
  have HSY := Lib.hid hs5.read
  have HYN := Lib.hid hs5.num
  have HYL : Hid (Y.length = b.size) := Lib.hid (by rw [hc5]; exact Nat.zero_add _)
  have HYE := Lib.hid hx5
  have HYM := Lib.hid (fun i (h : i < Y.length) => hm5 i (Nat.zero_le _) h)
  have HBX5 := Lib.hid (hu5.heap HBX4.out (fun h => h))
  obtain ⟨ya, yc, yka, ykc, hl5, hk5⟩ := hs5.shape
  subst hl5; subst hk5
  clear hs5 hu5 hb5 hp5 hc5 hx5 hm5 b0 b1 b2 HBX4 HE4 HADDB HB53
  have HBX6 : Hid ((w5.alloc (.cells #[.slice ya Y.length yc, .slice yka Y.length ykc] 118)).heap[w3.heap.size]? = some (.cells #[.slice xa X.length xc, .slice xka X.length xkc] 118 (0, 0))) := Lib.hid (allocOld HBX5.out _)
  have HBY6 : Hid ((w5.alloc (.cells #[.slice ya Y.length yc, .slice yka Y.length ykc] 118)).heap[w5.heap.size]? = some (.cells #[.slice ya Y.length yc, .slice yka Y.length ykc] 118 (0, 0))) := Lib.hid (alloc0 w5 (.cells #[.slice ya Y.length yc, .slice yka Y.length ykc] 118))
  have HE6 : Hid (Ext w5 (w5.alloc (.cells #[.slice ya Y.length yc, .slice yka Y.length ykc] 118))) := Lib.hid ((Upd.refl (fun _ => False) w5).alloc _)
  have hxl : X.length ≤ 1000 := by rw [HXL.out]; exact hza
  have hyl : Y.length ≤ 1000 := by rw [HYL.out]; exact hzb
  have hx1 : 1 ≤ X.length := by have := size_pos a; have := HXL.out; omega
  have hy1 : 1 ≤ Y.length := by have := size_pos b; have := HYL.out; omega
  clear HBX5
  obtain ⟨w6, hw6⟩ : ∃ W, w5.alloc (.cells #[.slice ya Y.length yc, .slice yka Y.length ykc] 118) = W := ⟨_, rfl⟩
  have HJ0 : Hid (TbJ w6.heap.size Y.length (ixF ops) X Y w6 w6 (.slice none 0 0) 0 [] [] (fun _ => False)) := Lib.hid (TbJ.start rfl)
  go_wp2_with fail
  rw [hw6] at HBX6 HBY6 HE6
  have HCELL : Hid (∀ (i j : Nat) (W : World) (tv : Value) (tab : List (List Bool)), Ext w6 W → LlR Value.bool (fun _ => True) W tv tab → i < X.length → j < Y.length → tab.length = i + 1 → (∀ p, p ≤ i → (tab.getD p []).length = Y.length) → (∀ p, p < i → ∀ q, q < Y.length → bt tab p q = gt (ixF ops) (ng X p).1 (ng Y q).1) → (∀ q, q < j → bt tab i q = gt (ixF ops) (ng X i).1 (ng Y q).1) →
      Calls Tryz.prog 79 #[.slice oa ops.length oc, .agg #[.slice xa X.length xc, .slice xka X.length xkc], .agg #[.slice ya Y.length yc, .slice yka Y.length ykc], tv, natV i, natV j] W fun e w' => e = .returned (.bool (gt (ixF ops) (ng X i).1 (ng Y j).1)) ∧ Ext W w') := Lib.hid (fun i j W tv tab hE hT hi hj htl hrow h1 h2 => by
    have eW : Ext w W := (HE5.out.trans HE6.out).trans hE
    have eX : Ext w3 W := (HYX.out.trans HE6.out).trans hE
    have eY : Ext w5 W := HE6.out.trans hE
    obtain ⟨z1, z2⟩ := sub_ok (HXM.out i hi)
    obtain ⟨z3, z4⟩ := sub_ok (HYM.out j hj)
    exact cell_x ops X Y tab i j (fun _ => True) W _ _ _ _ _ _ (SlR.weaken (SlR.kept HO.out eW (fun _ _ h => h)) (fun _ _ => trivial)) ((HSX.out.1.ext eX).weaken (fun _ _ => trivial)) ((HSX.out.2.ext eX).weaken (fun _ _ => trivial)) ((HSY.out.1.ext eY).weaken (fun _ _ => trivial)) ((HSY.out.2.ext eY).weaken (fun _ _ => trivial)) hT
      HXN.out HYN.out hi hj htl hrow h1 h2 (fun x hx => HNA.out x (z2 x hx)) (fun hs => HNB.out _ (HYM.out j hj) hs) (fun hs => HKA.out _ (mem_opN.2 ⟨_, HXM.out i hi, hs, rfl⟩)) (fun hs => HKB.out _ (mem_opN.2 ⟨_, HYM.out j hj, hs, rfl⟩)) (by omega) (by omega) hol (by omega) (by omega))
  have HE60 := Lib.hid (HE5.out.trans HE6.out)
  have hw60 : w5.heap.size < w6.heap.size := by rw [← hw6]; simp
  have hw63 : w3.heap.size < w6.heap.size := by have := HYX.out.size; omega
  clear hw6 HSX HSY HO HTA HTB HNA HNB HKA HKB HSS HXM HYM HE6 HE5 HYX HE3
  obtain ⟨iB, hiB, hzB0, hzB1, hzB2⟩ := info_parts infoB
  have HMK := Lib.hid (fun W => made_one Tryz.prog 121 4 iB (.bool false) Tryz.underlying121 hiB hzB0 hzB1 rfl (by rw [hzB2]; omega) Y.length (by omega) W)
  clear hiB hzB0 hzB1 hzB2
  have hrf : Hid (Ext w6 w6) := Lib.hid (Upd.refl _ _)
  go_loopg [9, 10] X.length (fun gk tv iv wr => ∃ (i : Nat) (us : List Value) (tab : List (List Bool)) (Q : Nat → Prop), iv = .int .i64 (i : Int) ∧ gk = X.length - i ∧ i ≤ X.length ∧ Hid (TbJ w6.heap.size Y.length (ixF ops) X Y w6 wr tv i us tab Q))
  case atStart => exact ⟨0, [], [], _, rfl, rfl, Nat.zero_le _, HJ0⟩
  case round =>
    clear HJ0 hrf
    obtain ⟨i, us, tab, Q, rfl, rfl, hi, HJ⟩ := hrel
    obtain ⟨ta, tc, htv⟩ := own_shape HJ.out.own
    subst htv
    have HBXr := Lib.hid (HJ.out.ext.heap HBX6.out (fun h => h))
    have HBYr := Lib.hid (HJ.out.ext.heap HBY6.out (fun h => h))
    have x0 := cellRow HBXr.out 0 (.slice xa X.length xc) rfl
    have x1 := cellRow HBXr.out 1 (.slice xka X.length xkc) rfl
    have y0 := cellRow HBYr.out 0 (.slice ya Y.length yc) rfl
    have y1 := cellRow HBYr.out 1 (.slice yka Y.length ykc) rfl
    by_cases hlt : i < X.length
    · have z0 : (0 : Int) ≤ (i : Int) := by omega
      have z1 : (i : Int) < (X.length : Int) := by omega
      have z2 : decide ((i : Int) < (X.length : Int)) = true := decide_eq_true z1
      have z2' : decide (i < X.length) = true := decide_eq_true hlt
      have hmk := HMK.out wr
      have hwr := HJ.out.ext.size
      obtain ⟨iR, hiR, hzR0, hzR1, hzR2⟩ := info_parts infoR
      go_wp2_with (at_builtin; refine wpList_append_at _ rfl (.tmp 30) (.tmp 32) 120 rfl w6.heap.size 121 iR (.slice none 0 0) 1 24 Tryz.underlying120 hiR hzR0 hzR1 hzR2 rfl (by decide) _ _ _ rfl ((HJ.out.own.alloc _).alloc _) _ 1 1 [.slice (some ⟨wr.heap.size, 0, none⟩) Y.length Y.length] rfl rfl ?c1 ?c2 ?c3 ?c4 ?c5 ?_)
      case c1 =>
        intro l u hl
        match l, hl with
        | 0, hl => simp only [List.getElem?_cons_zero, Option.some.injEq] at hl; subst hl; simp only [Addr.add]; exact cellRow (alloc_at _ _ (by simp)) 0 _ rfl
      case c2 => intro u hu; simp at hu; subst hu; rfl
      case c3 => unfold maxLen; omega
      case c4 => omega
      case c5 => simp; omega
      intro v8 w8 hG
      have hA0 : Arr (wr.alloc (.cells (madeCells #[.bool false] Y.length) 4)) wr.heap.size 4 ((List.replicate Y.length false).map Value.bool) := by
        have h := Arr.new wr 4 (madeCells #[.bool false] Y.length)
        have e : (madeCells #[.bool false] Y.length).toList = (List.replicate Y.length false).map Value.bool := by rw [made_list, List.map_replicate]
        rw [e] at h
        exact h
      have HR := Lib.hid (HJ.out.open_ rfl hA0 ((Upd.refl _ _).alloc _) ((Upd.refl _ _).alloc _) hG)
      obtain ⟨t8, c8, rfl⟩ := own_shape hG.own
      have hg8 : wr.heap.size < w8.heap.size := HR.out.arr.lt
      obtain ⟨gb, hgb⟩ : ∃ g, wr.heap.size = g := ⟨_, rfl⟩
      rw [hgb] at HR
      clear hG hA0 hmk x0 x1 y0 y1 HBXr HBYr hiR hzR0 hzR1 hzR2 HJ
      go_wp2_with fail
      rw [hgb]
      clear hgb hg8
      go_loopg [12] Y.length (fun gk jv wz => ∃ (j : Nat) (row : List Bool), jv = .int .i64 (j : Int) ∧ gk = Y.length - j ∧ j ≤ Y.length ∧ Hid (RwJ w6.heap.size Y.length (ixF ops) X Y w6 wz (.slice t8 (i + 1) c8) i us tab Q gb row j))
      case atStart => exact ⟨0, _, rfl, rfl, Nat.zero_le _, HR⟩
      case round =>
        clear HR
        obtain ⟨j, row, rfl, rfl, hj, HR⟩ := hrel
        have HBXz := Lib.hid (HR.out.ext.heap HBX6.out (fun h => h))
        have HBYz := Lib.hid (HR.out.ext.heap HBY6.out (fun h => h))
        have x0 := cellRow HBXz.out 0 (.slice xa X.length xc) rfl
        have x1 := cellRow HBXz.out 1 (.slice xka X.length xkc) rfl
        have y0 := cellRow HBYz.out 0 (.slice ya Y.length yc) rfl
        have y1 := cellRow HBYz.out 1 (.slice yka Y.length ykc) rfl
        by_cases hltj : j < Y.length
        · have z3 : (0 : Int) ≤ (j : Int) := by omega
          have z4 : (j : Int) < (Y.length : Int) := by omega
          have z5 : decide ((j : Int) < (Y.length : Int)) = true := decide_eq_true z4
          have z5' : decide (j < Y.length) = true := decide_eq_true hltj
          have HCX := Lib.hid (HCELL.out i j wr _ _ HR.out.ext HR.out.read hlt hltj (by simp [HR.out.tl]) (fun p hp => by
            by_cases hpi : p < i
            · rw [List.getD_eq_getElem?_getD, List.getElem?_append_left (by rw [HR.out.tl]; exact hpi), ← List.getD_eq_getElem?_getD]
              exact (HR.out.rows p hpi).1
            · obtain rfl : p = i := by omega
              rw [List.getD_eq_getElem?_getD, ← HR.out.tl, List.getElem?_concat_length]
              exact HR.out.rl) (fun p hp q hq => by
            unfold bt
            rw [show (tab ++ [row]).getD p [] = tab.getD p [] by rw [List.getD_eq_getElem?_getD, List.getElem?_append_left (by rw [HR.out.tl]; exact hp), ← List.getD_eq_getElem?_getD]]
            exact HR.out.val p hp q hq) (fun q hq => by
            unfold bt
            rw [show (tab ++ [row]).getD i [] = row by rw [List.getD_eq_getElem?_getD, ← HR.out.tl, List.getElem?_concat_length]; rfl]
            exact HR.out.cur q hq))
          have HST := Lib.hid (fun W (hW : Ext wr W) => HR.out.step hltj hW)
          generalize gt (ixF ops) (ng X i).1 (ng Y j).1 = GV at *
          have HMR := Lib.hid (fun W (hW : Ext wr W) => Arr.mark (HR.out.arr.kept hW (fun h => h)) j)
          have HCE := Lib.hid (fun W (hW : Ext wr W) => Arr.cell (HR.out.arr.kept hW (fun h => h)) (j := j) (v := .bool (row.getD j false)) (by rw [List.getElem?_map, List.getElem?_eq_getElem (by rw [HR.out.rl]; exact hltj), List.getD_eq_getElem?_getD, List.getElem?_eq_getElem (by rw [HR.out.rl]; exact hltj)]; rfl))
          go_wp2_with fail
          refine HCX.out.mono ?_
          rintro e w9 ⟨rfl, hw9⟩
          have HS9 := Lib.hid (HST.out w9 hw9)
          have mk := HMR.out w9 hw9
          have ce := HCE.out w9 hw9
          clear hw9 x0 x1 y0 y1
          go_wp2_with fail
          go_roundg (Y.length - (j + 1))
          case measure => omega
          case rel => exact ⟨j + 1, _, by go_num, rfl, by omega, HS9⟩
        · obtain rfl : j = Y.length := by omega
          have z5 : decide ((Y.length : Int) < (Y.length : Int)) = false := decide_eq_false (by omega)
          have HCL := Lib.hid HR.out.close
          go_wp2_with fail
          go_roundg (X.length - (i + 1))
          case measure => omega
          case rel => exact ⟨i + 1, _, _, _, by go_num, rfl, by omega, HCL⟩
    · obtain rfl : i = X.length := by omega
      have z2 : decide ((X.length : Int) < (X.length : Int)) = false := decide_eq_false (by omega)
      have hx0 : X.length - 1 < X.length := by omega
      have hy0 : Y.length - 1 < Y.length := by omega
      have hrd := HJ.out.read
      obtain ⟨gt_, ot, rfl, RG, RO, RC, hcl⟩ := tb_cells hrd (by rw [HJ.out.tl]; omega) (m := Y.length) (fun p hp => (HJ.out.rows p (by rw [← HJ.out.tl]; exact hp)).1) (by omega)
      obtain ⟨k0, k1⟩ := hcl wr (Upd.refl _ _) (X.length - 1) (by rw [HJ.out.tl]; exact hx0) (Y.length - 1) hy0
      have hv := HJ.out.val _ hx0 _ hy0
      rw [hv, HXE.out, HYE.out] at k1
      have w1 : IntKind.i64.wrap ((X.length : Int) - 1) = ((X.length - 1 : Nat) : Int) := by rw [IntWalk.i64_in _ (by omega)]; omega
      have w2 : IntKind.i64.wrap ((Y.length : Int) - 1) = ((Y.length - 1 : Nat) : Int) := by rw [IntWalk.i64_in _ (by omega)]; omega
      have w3' : wrap64 ((X.length : Int) - 1) = ((X.length - 1 : Nat) : Int) := by rw [IntWalk.wrap64_in _ (by omega)]; omega
      have w4' : wrap64 ((Y.length : Int) - 1) = ((Y.length - 1 : Nat) : Int) := by rw [IntWalk.wrap64_in _ (by omega)]; omega
      have z6 : (0 : Int) ≤ ((X.length - 1 : Nat) : Int) := by omega
      have z7 : ((X.length - 1 : Nat) : Int) < (X.length : Int) := by omega
      have z8 : (0 : Int) ≤ ((Y.length - 1 : Nat) : Int) := by omega
      have z9 : ((Y.length - 1 : Nat) : Int) < (Y.length : Int) := by omega
      have HFE := Lib.hid (HE60.out.trans HJ.out.ext)
      clear hv hcl hrd
      obtain ⟨GV, hGV⟩ : ∃ v, gt (ixF ops) a b = v := ⟨_, rfl⟩
      rw [hGV] at k1
      have HGV := Lib.hid hGV
      clear hGV
      go_wp2_with fail
      go_quiet (fail)
      go_wp2_with fail
      go_ret
      rw [HGV.out]
      exact ⟨rfl, HFE.out.drewN' _⟩

end Go.Proofs.YtiimccogojkldaaGreatDoor

/- Greater of the reference. -/
namespace Go.Proofs.YtiimccogojkldaaGreatDoor
open Go.RowKit Go.Hw Go
set_option linter.unusedVariables false
set_option linter.unusedSimpArgs false

open Tm
/-- what Greater answers -/
def grF (ops : List By) (a b : Tm) : Bool × Int :=
  if precP nmB ops = false ∨ wf nmB a = false ∨ wf nmB b = false then (false, 1) else if knowsP ops a = false ∨ knowsP ops b = false then (false, 9) else (gt (ixF ops) a b, 0)
theorem wf_size {t : Tm} (h : wf nmB t = true) : t.size ≤ 1000 := (formed_nd (wf_formed h)).1
theorem wf_nop {t : Tm} (h : wf nmB t = true) : NoP t := formed_VL (wf_formed h)
set_option maxRecDepth 100000 in
set_option maxHeartbeats 2000000 in
theorem rgreater_x (ops : List By) (a b : Tm) (ov va vb : Value) (S : Nat → Prop) (w : World) (hO : StR S w ov ops) (ha : TmR S w a va) (hb : TmR S w b vb) (hS : ∀ k, S k → k < w.heap.size) (hol : ops.length ≤ 1000000) :
    Calls Tryz.prog 13 #[ov, va, vb] w fun e w' => e = .returned (.tuple #[.bool (grF ops a b).1, .int .i64 (grF ops a b).2]) ∧ Ext w w' := by
  have HZ : Hid (∀ x y, Ext w ((w.alloc x).alloc y)) := Lib.hid (fun x y => ((Upd.refl (fun _ => False) w).alloc x).alloc y)
  have HP := Lib.hid (fun W (hW : Ext w W) => rprec_x ops ov S W (SlR.kept hO hW (fun _ _ h => h)))
  have HFA := Lib.hid (fun W (hW : Ext w W) => rformed_x a va S W (ha.ext hW))
  have HFB := Lib.hid (fun W (hW : Ext w W) => rformed_x b vb S W (hb.ext hW))
  have HKA := Lib.hid (fun (hf : wf nmB a = true) W (hW : Ext w W) => rknows_x ops a ov va S S W (SlR.kept hO hW (fun _ _ h => h)) (ha.ext hW) hol (by have := wf_size hf; omega))
  have HKB := Lib.hid (fun (hf : wf nmB b = true) W (hW : Ext w W) => rknows_x ops b ov vb S S W (SlR.kept hO hW (fun _ _ h => h)) (hb.ext hW) hol (by have := wf_size hf; omega))
  have HAV := Lib.hid (fun (hfa : wf nmB a = true) (hfb : wf nmB b = true) (hka : knowsP ops a = true) (hkb : knowsP ops b = true) W (hW : Ext w W) => rabove_x ops a b ov va vb S W (SlR.kept hO hW (fun _ _ h => h)) (ha.ext hW) (hb.ext hW) (fun k hk => Nat.lt_of_lt_of_le (hS k hk) hW.size) (wf_size hfa) (wf_size hfb) (wf_nop hfa) (wf_nop hfb) (knowsP_iff.1 hka) (knowsP_iff.1 hkb) hol)
  obtain ⟨oa, oc, rfl⟩ := SlR.shape hO
  obtain ⟨aa, ac, rfl, _⟩ := ha
  obtain ⟨ba, bc, rfl, _⟩ := hb
  dsimp only [tV] at HFA HFB HKA HKB HAV ⊢
  have H0 : Hid (Ext w ((w.alloc (.cells #[.string a.name, .string a.sort, .slice aa a.kids.length ac] 25)).alloc (.cells #[.string b.name, .string b.sort, .slice ba b.kids.length bc] 25))) := Lib.hid (HZ.out _ _)
  have HA : Hid (((w.alloc (.cells #[.string a.name, .string a.sort, .slice aa a.kids.length ac] 25)).alloc (.cells #[.string b.name, .string b.sort, .slice ba b.kids.length bc] 25)).heap[w.heap.size]? = some (.cells #[.string a.name, .string a.sort, .slice aa a.kids.length ac] 25 (0, 0))) := Lib.hid (allocOld (alloc0 w (.cells #[.string a.name, .string a.sort, .slice aa a.kids.length ac] 25)) (.cells #[.string b.name, .string b.sort, .slice ba b.kids.length bc] 25))
  have HB : Hid (((w.alloc (.cells #[.string a.name, .string a.sort, .slice aa a.kids.length ac] 25)).alloc (.cells #[.string b.name, .string b.sort, .slice ba b.kids.length bc] 25)).heap[w.heap.size + 1]? = some (.cells #[.string b.name, .string b.sort, .slice ba b.kids.length bc] 25 (0, 0))) := Lib.hid (alloc_at (w.alloc (.cells #[.string a.name, .string a.sort, .slice aa a.kids.length ac] 25)) (.cells #[.string b.name, .string b.sort, .slice ba b.kids.length bc] 25) (n := w.heap.size + 1) (by simp))
  clear hO hS
  obtain ⟨P, hP⟩ : ∃ x, precP nmB ops = x := ⟨_, rfl⟩
  rw [hP] at HP
  cases P
  · have HV : Hid (grF ops a b = (false, 1)) := Lib.hid (by unfold grF; simp [hP])
    clear hP 
    have p0 := cellRow HA.out 0 (.string a.name) rfl
    have p1 := cellRow HA.out 1 (.string a.sort) rfl
    have p2 := cellRow HA.out 2 (.slice aa a.kids.length ac) rfl
    have q0 := cellRow HB.out 0 (.string b.name) rfl
    have q1 := cellRow HB.out 1 (.string b.sort) rfl
    have q2 := cellRow HB.out 2 (.slice ba b.kids.length bc) rfl
    go_enter Tryz.func13, Tryz.ntmps13
    go_wp2_with fail
    refine (HP.out _ H0.out).mono ?_
    rintro e w4 ⟨rfl, hw4⟩
    have H4 := Lib.hid (H0.out.trans hw4)
    have HA_4 := Lib.hid (hw4.heap HA.out (fun h => h))
    have HB_4 := Lib.hid (hw4.heap HB.out (fun h => h))
    clear hw4 p0 p1 p2 q0 q1 q2
    have p0 := cellRow HA_4.out 0 (.string a.name) rfl
    have p1 := cellRow HA_4.out 1 (.string a.sort) rfl
    have p2 := cellRow HA_4.out 2 (.slice aa a.kids.length ac) rfl
    have q0 := cellRow HB_4.out 0 (.string b.name) rfl
    have q1 := cellRow HB_4.out 1 (.string b.sort) rfl
    have q2 := cellRow HB_4.out 2 (.slice ba b.kids.length bc) rfl
    go_wp2_with fail
    go_ret2
    rw [HV.out]
    exact ⟨rfl, H4.out⟩
  obtain ⟨FA, hFA⟩ : ∃ x, wf nmB a = x := ⟨_, rfl⟩
  have hFA2 := Lib.hid hFA
  rw [hFA] at HFA
  cases FA
  · have HV : Hid (grF ops a b = (false, 1)) := Lib.hid (by unfold grF; simp [hP, hFA])
    clear hP hFA
    have p0 := cellRow HA.out 0 (.string a.name) rfl
    have p1 := cellRow HA.out 1 (.string a.sort) rfl
    have p2 := cellRow HA.out 2 (.slice aa a.kids.length ac) rfl
    have q0 := cellRow HB.out 0 (.string b.name) rfl
    have q1 := cellRow HB.out 1 (.string b.sort) rfl
    have q2 := cellRow HB.out 2 (.slice ba b.kids.length bc) rfl
    go_enter Tryz.func13, Tryz.ntmps13
    go_wp2_with fail
    refine (HP.out _ H0.out).mono ?_
    rintro e w4 ⟨rfl, hw4⟩
    have H4 := Lib.hid (H0.out.trans hw4)
    have HA_4 := Lib.hid (hw4.heap HA.out (fun h => h))
    have HB_4 := Lib.hid (hw4.heap HB.out (fun h => h))
    clear hw4 p0 p1 p2 q0 q1 q2
    have p0 := cellRow HA_4.out 0 (.string a.name) rfl
    have p1 := cellRow HA_4.out 1 (.string a.sort) rfl
    have p2 := cellRow HA_4.out 2 (.slice aa a.kids.length ac) rfl
    have q0 := cellRow HB_4.out 0 (.string b.name) rfl
    have q1 := cellRow HB_4.out 1 (.string b.sort) rfl
    have q2 := cellRow HB_4.out 2 (.slice ba b.kids.length bc) rfl
    go_wp2_with fail
    refine (HFA.out _ H4.out).mono ?_
    rintro e w5 ⟨rfl, hw5⟩
    have H5 := Lib.hid (H4.out.trans hw5)
    have HA_5 := Lib.hid (hw5.heap HA_4.out (fun h => h))
    have HB_5 := Lib.hid (hw5.heap HB_4.out (fun h => h))
    clear hw5 p0 p1 p2 q0 q1 q2
    have p0 := cellRow HA_5.out 0 (.string a.name) rfl
    have p1 := cellRow HA_5.out 1 (.string a.sort) rfl
    have p2 := cellRow HA_5.out 2 (.slice aa a.kids.length ac) rfl
    have q0 := cellRow HB_5.out 0 (.string b.name) rfl
    have q1 := cellRow HB_5.out 1 (.string b.sort) rfl
    have q2 := cellRow HB_5.out 2 (.slice ba b.kids.length bc) rfl
    go_wp2_with fail
    go_ret2
    rw [HV.out]
    exact ⟨rfl, H5.out⟩
  obtain ⟨FB, hFB⟩ : ∃ x, wf nmB b = x := ⟨_, rfl⟩
  have hFB2 := Lib.hid hFB
  rw [hFB] at HFB
  cases FB
  · have HV : Hid (grF ops a b = (false, 1)) := Lib.hid (by unfold grF; simp [hP, hFA, hFB])
    clear hP hFA hFB
    have p0 := cellRow HA.out 0 (.string a.name) rfl
    have p1 := cellRow HA.out 1 (.string a.sort) rfl
    have p2 := cellRow HA.out 2 (.slice aa a.kids.length ac) rfl
    have q0 := cellRow HB.out 0 (.string b.name) rfl
    have q1 := cellRow HB.out 1 (.string b.sort) rfl
    have q2 := cellRow HB.out 2 (.slice ba b.kids.length bc) rfl
    go_enter Tryz.func13, Tryz.ntmps13
    go_wp2_with fail
    refine (HP.out _ H0.out).mono ?_
    rintro e w4 ⟨rfl, hw4⟩
    have H4 := Lib.hid (H0.out.trans hw4)
    have HA_4 := Lib.hid (hw4.heap HA.out (fun h => h))
    have HB_4 := Lib.hid (hw4.heap HB.out (fun h => h))
    clear hw4 p0 p1 p2 q0 q1 q2
    have p0 := cellRow HA_4.out 0 (.string a.name) rfl
    have p1 := cellRow HA_4.out 1 (.string a.sort) rfl
    have p2 := cellRow HA_4.out 2 (.slice aa a.kids.length ac) rfl
    have q0 := cellRow HB_4.out 0 (.string b.name) rfl
    have q1 := cellRow HB_4.out 1 (.string b.sort) rfl
    have q2 := cellRow HB_4.out 2 (.slice ba b.kids.length bc) rfl
    go_wp2_with fail
    refine (HFA.out _ H4.out).mono ?_
    rintro e w5 ⟨rfl, hw5⟩
    have H5 := Lib.hid (H4.out.trans hw5)
    have HA_5 := Lib.hid (hw5.heap HA_4.out (fun h => h))
    have HB_5 := Lib.hid (hw5.heap HB_4.out (fun h => h))
    clear hw5 p0 p1 p2 q0 q1 q2
    have p0 := cellRow HA_5.out 0 (.string a.name) rfl
    have p1 := cellRow HA_5.out 1 (.string a.sort) rfl
    have p2 := cellRow HA_5.out 2 (.slice aa a.kids.length ac) rfl
    have q0 := cellRow HB_5.out 0 (.string b.name) rfl
    have q1 := cellRow HB_5.out 1 (.string b.sort) rfl
    have q2 := cellRow HB_5.out 2 (.slice ba b.kids.length bc) rfl
    go_wp2_with fail
    refine (HFB.out _ H5.out).mono ?_
    rintro e w6 ⟨rfl, hw6⟩
    have H6 := Lib.hid (H5.out.trans hw6)
    have HA_6 := Lib.hid (hw6.heap HA_5.out (fun h => h))
    have HB_6 := Lib.hid (hw6.heap HB_5.out (fun h => h))
    clear hw6 p0 p1 p2 q0 q1 q2
    have p0 := cellRow HA_6.out 0 (.string a.name) rfl
    have p1 := cellRow HA_6.out 1 (.string a.sort) rfl
    have p2 := cellRow HA_6.out 2 (.slice aa a.kids.length ac) rfl
    have q0 := cellRow HB_6.out 0 (.string b.name) rfl
    have q1 := cellRow HB_6.out 1 (.string b.sort) rfl
    have q2 := cellRow HB_6.out 2 (.slice ba b.kids.length bc) rfl
    go_wp2_with fail
    go_ret2
    rw [HV.out]
    exact ⟨rfl, H6.out⟩
  have HKA1 := Lib.hid (HKA.out hFA2.out)
  have HKB1 := Lib.hid (HKB.out hFB2.out)
  obtain ⟨KA, hKA⟩ : ∃ x, knowsP ops a = x := ⟨_, rfl⟩
  have hKA2 := Lib.hid hKA
  rw [hKA] at HKA1
  cases KA
  · have HV : Hid (grF ops a b = (false, 9)) := Lib.hid (by unfold grF; simp [hP, hFA, hFB, hKA])
    clear hP hFA hFB hKA
    have p0 := cellRow HA.out 0 (.string a.name) rfl
    have p1 := cellRow HA.out 1 (.string a.sort) rfl
    have p2 := cellRow HA.out 2 (.slice aa a.kids.length ac) rfl
    have q0 := cellRow HB.out 0 (.string b.name) rfl
    have q1 := cellRow HB.out 1 (.string b.sort) rfl
    have q2 := cellRow HB.out 2 (.slice ba b.kids.length bc) rfl
    go_enter Tryz.func13, Tryz.ntmps13
    go_wp2_with fail
    refine (HP.out _ H0.out).mono ?_
    rintro e w4 ⟨rfl, hw4⟩
    have H4 := Lib.hid (H0.out.trans hw4)
    have HA_4 := Lib.hid (hw4.heap HA.out (fun h => h))
    have HB_4 := Lib.hid (hw4.heap HB.out (fun h => h))
    clear hw4 p0 p1 p2 q0 q1 q2
    have p0 := cellRow HA_4.out 0 (.string a.name) rfl
    have p1 := cellRow HA_4.out 1 (.string a.sort) rfl
    have p2 := cellRow HA_4.out 2 (.slice aa a.kids.length ac) rfl
    have q0 := cellRow HB_4.out 0 (.string b.name) rfl
    have q1 := cellRow HB_4.out 1 (.string b.sort) rfl
    have q2 := cellRow HB_4.out 2 (.slice ba b.kids.length bc) rfl
    go_wp2_with fail
    refine (HFA.out _ H4.out).mono ?_
    rintro e w5 ⟨rfl, hw5⟩
    have H5 := Lib.hid (H4.out.trans hw5)
    have HA_5 := Lib.hid (hw5.heap HA_4.out (fun h => h))
    have HB_5 := Lib.hid (hw5.heap HB_4.out (fun h => h))
    clear hw5 p0 p1 p2 q0 q1 q2
    have p0 := cellRow HA_5.out 0 (.string a.name) rfl
    have p1 := cellRow HA_5.out 1 (.string a.sort) rfl
    have p2 := cellRow HA_5.out 2 (.slice aa a.kids.length ac) rfl
    have q0 := cellRow HB_5.out 0 (.string b.name) rfl
    have q1 := cellRow HB_5.out 1 (.string b.sort) rfl
    have q2 := cellRow HB_5.out 2 (.slice ba b.kids.length bc) rfl
    go_wp2_with fail
    refine (HFB.out _ H5.out).mono ?_
    rintro e w6 ⟨rfl, hw6⟩
    have H6 := Lib.hid (H5.out.trans hw6)
    have HA_6 := Lib.hid (hw6.heap HA_5.out (fun h => h))
    have HB_6 := Lib.hid (hw6.heap HB_5.out (fun h => h))
    clear hw6 p0 p1 p2 q0 q1 q2
    have p0 := cellRow HA_6.out 0 (.string a.name) rfl
    have p1 := cellRow HA_6.out 1 (.string a.sort) rfl
    have p2 := cellRow HA_6.out 2 (.slice aa a.kids.length ac) rfl
    have q0 := cellRow HB_6.out 0 (.string b.name) rfl
    have q1 := cellRow HB_6.out 1 (.string b.sort) rfl
    have q2 := cellRow HB_6.out 2 (.slice ba b.kids.length bc) rfl
    go_wp2_with fail
    refine (HKA1.out _ H6.out).mono ?_
    rintro e w7 ⟨rfl, hw7⟩
    have H7 := Lib.hid (H6.out.trans hw7)
    have HA_7 := Lib.hid (hw7.heap HA_6.out (fun h => h))
    have HB_7 := Lib.hid (hw7.heap HB_6.out (fun h => h))
    clear hw7 p0 p1 p2 q0 q1 q2
    have p0 := cellRow HA_7.out 0 (.string a.name) rfl
    have p1 := cellRow HA_7.out 1 (.string a.sort) rfl
    have p2 := cellRow HA_7.out 2 (.slice aa a.kids.length ac) rfl
    have q0 := cellRow HB_7.out 0 (.string b.name) rfl
    have q1 := cellRow HB_7.out 1 (.string b.sort) rfl
    have q2 := cellRow HB_7.out 2 (.slice ba b.kids.length bc) rfl
    go_wp2_with fail
    go_ret2
    rw [HV.out]
    exact ⟨rfl, H7.out⟩
  obtain ⟨KB, hKB⟩ : ∃ x, knowsP ops b = x := ⟨_, rfl⟩
  have hKB2 := Lib.hid hKB
  rw [hKB] at HKB1
  cases KB
  · have HV : Hid (grF ops a b = (false, 9)) := Lib.hid (by unfold grF; simp [hP, hFA, hFB, hKA, hKB])
    clear hP hFA hFB hKA hKB
    have p0 := cellRow HA.out 0 (.string a.name) rfl
    have p1 := cellRow HA.out 1 (.string a.sort) rfl
    have p2 := cellRow HA.out 2 (.slice aa a.kids.length ac) rfl
    have q0 := cellRow HB.out 0 (.string b.name) rfl
    have q1 := cellRow HB.out 1 (.string b.sort) rfl
    have q2 := cellRow HB.out 2 (.slice ba b.kids.length bc) rfl
    go_enter Tryz.func13, Tryz.ntmps13
    go_wp2_with fail
    refine (HP.out _ H0.out).mono ?_
    rintro e w4 ⟨rfl, hw4⟩
    have H4 := Lib.hid (H0.out.trans hw4)
    have HA_4 := Lib.hid (hw4.heap HA.out (fun h => h))
    have HB_4 := Lib.hid (hw4.heap HB.out (fun h => h))
    clear hw4 p0 p1 p2 q0 q1 q2
    have p0 := cellRow HA_4.out 0 (.string a.name) rfl
    have p1 := cellRow HA_4.out 1 (.string a.sort) rfl
    have p2 := cellRow HA_4.out 2 (.slice aa a.kids.length ac) rfl
    have q0 := cellRow HB_4.out 0 (.string b.name) rfl
    have q1 := cellRow HB_4.out 1 (.string b.sort) rfl
    have q2 := cellRow HB_4.out 2 (.slice ba b.kids.length bc) rfl
    go_wp2_with fail
    refine (HFA.out _ H4.out).mono ?_
    rintro e w5 ⟨rfl, hw5⟩
    have H5 := Lib.hid (H4.out.trans hw5)
    have HA_5 := Lib.hid (hw5.heap HA_4.out (fun h => h))
    have HB_5 := Lib.hid (hw5.heap HB_4.out (fun h => h))
    clear hw5 p0 p1 p2 q0 q1 q2
    have p0 := cellRow HA_5.out 0 (.string a.name) rfl
    have p1 := cellRow HA_5.out 1 (.string a.sort) rfl
    have p2 := cellRow HA_5.out 2 (.slice aa a.kids.length ac) rfl
    have q0 := cellRow HB_5.out 0 (.string b.name) rfl
    have q1 := cellRow HB_5.out 1 (.string b.sort) rfl
    have q2 := cellRow HB_5.out 2 (.slice ba b.kids.length bc) rfl
    go_wp2_with fail
    refine (HFB.out _ H5.out).mono ?_
    rintro e w6 ⟨rfl, hw6⟩
    have H6 := Lib.hid (H5.out.trans hw6)
    have HA_6 := Lib.hid (hw6.heap HA_5.out (fun h => h))
    have HB_6 := Lib.hid (hw6.heap HB_5.out (fun h => h))
    clear hw6 p0 p1 p2 q0 q1 q2
    have p0 := cellRow HA_6.out 0 (.string a.name) rfl
    have p1 := cellRow HA_6.out 1 (.string a.sort) rfl
    have p2 := cellRow HA_6.out 2 (.slice aa a.kids.length ac) rfl
    have q0 := cellRow HB_6.out 0 (.string b.name) rfl
    have q1 := cellRow HB_6.out 1 (.string b.sort) rfl
    have q2 := cellRow HB_6.out 2 (.slice ba b.kids.length bc) rfl
    go_wp2_with fail
    refine (HKA1.out _ H6.out).mono ?_
    rintro e w7 ⟨rfl, hw7⟩
    have H7 := Lib.hid (H6.out.trans hw7)
    have HA_7 := Lib.hid (hw7.heap HA_6.out (fun h => h))
    have HB_7 := Lib.hid (hw7.heap HB_6.out (fun h => h))
    clear hw7 p0 p1 p2 q0 q1 q2
    have p0 := cellRow HA_7.out 0 (.string a.name) rfl
    have p1 := cellRow HA_7.out 1 (.string a.sort) rfl
    have p2 := cellRow HA_7.out 2 (.slice aa a.kids.length ac) rfl
    have q0 := cellRow HB_7.out 0 (.string b.name) rfl
    have q1 := cellRow HB_7.out 1 (.string b.sort) rfl
    have q2 := cellRow HB_7.out 2 (.slice ba b.kids.length bc) rfl
    go_wp2_with fail
    refine (HKB1.out _ H7.out).mono ?_
    rintro e w8 ⟨rfl, hw8⟩
    have H8 := Lib.hid (H7.out.trans hw8)
    have HA_8 := Lib.hid (hw8.heap HA_7.out (fun h => h))
    have HB_8 := Lib.hid (hw8.heap HB_7.out (fun h => h))
    clear hw8 p0 p1 p2 q0 q1 q2
    have p0 := cellRow HA_8.out 0 (.string a.name) rfl
    have p1 := cellRow HA_8.out 1 (.string a.sort) rfl
    have p2 := cellRow HA_8.out 2 (.slice aa a.kids.length ac) rfl
    have q0 := cellRow HB_8.out 0 (.string b.name) rfl
    have q1 := cellRow HB_8.out 1 (.string b.sort) rfl
    have q2 := cellRow HB_8.out 2 (.slice ba b.kids.length bc) rfl
    go_wp2_with fail
    go_ret2
    rw [HV.out]
    exact ⟨rfl, H8.out⟩
  have HAV1 := Lib.hid (HAV.out hFA2.out hFB2.out hKA2.out hKB2.out)
  obtain ⟨GV, hGV⟩ : ∃ x, gt (ixF ops) a b = x := ⟨_, rfl⟩
  rw [hGV] at HAV1
  have HV : Hid (grF ops a b = (GV, 0)) := Lib.hid (by unfold grF; simp [hP, hFA, hFB, hKA, hKB, hGV])
  clear hP hFA hFB hKA hKB hGV
  have p0 := cellRow HA.out 0 (.string a.name) rfl
  have p1 := cellRow HA.out 1 (.string a.sort) rfl
  have p2 := cellRow HA.out 2 (.slice aa a.kids.length ac) rfl
  have q0 := cellRow HB.out 0 (.string b.name) rfl
  have q1 := cellRow HB.out 1 (.string b.sort) rfl
  have q2 := cellRow HB.out 2 (.slice ba b.kids.length bc) rfl
  go_enter Tryz.func13, Tryz.ntmps13
  go_wp2_with fail
  refine (HP.out _ H0.out).mono ?_
  rintro e w4 ⟨rfl, hw4⟩
  have H4 := Lib.hid (H0.out.trans hw4)
  have HA_4 := Lib.hid (hw4.heap HA.out (fun h => h))
  have HB_4 := Lib.hid (hw4.heap HB.out (fun h => h))
  clear hw4 p0 p1 p2 q0 q1 q2
  have p0 := cellRow HA_4.out 0 (.string a.name) rfl
  have p1 := cellRow HA_4.out 1 (.string a.sort) rfl
  have p2 := cellRow HA_4.out 2 (.slice aa a.kids.length ac) rfl
  have q0 := cellRow HB_4.out 0 (.string b.name) rfl
  have q1 := cellRow HB_4.out 1 (.string b.sort) rfl
  have q2 := cellRow HB_4.out 2 (.slice ba b.kids.length bc) rfl
  go_wp2_with fail
  refine (HFA.out _ H4.out).mono ?_
  rintro e w5 ⟨rfl, hw5⟩
  have H5 := Lib.hid (H4.out.trans hw5)
  have HA_5 := Lib.hid (hw5.heap HA_4.out (fun h => h))
  have HB_5 := Lib.hid (hw5.heap HB_4.out (fun h => h))
  clear hw5 p0 p1 p2 q0 q1 q2
  have p0 := cellRow HA_5.out 0 (.string a.name) rfl
  have p1 := cellRow HA_5.out 1 (.string a.sort) rfl
  have p2 := cellRow HA_5.out 2 (.slice aa a.kids.length ac) rfl
  have q0 := cellRow HB_5.out 0 (.string b.name) rfl
  have q1 := cellRow HB_5.out 1 (.string b.sort) rfl
  have q2 := cellRow HB_5.out 2 (.slice ba b.kids.length bc) rfl
  go_wp2_with fail
  refine (HFB.out _ H5.out).mono ?_
  rintro e w6 ⟨rfl, hw6⟩
  have H6 := Lib.hid (H5.out.trans hw6)
  have HA_6 := Lib.hid (hw6.heap HA_5.out (fun h => h))
  have HB_6 := Lib.hid (hw6.heap HB_5.out (fun h => h))
  clear hw6 p0 p1 p2 q0 q1 q2
  have p0 := cellRow HA_6.out 0 (.string a.name) rfl
  have p1 := cellRow HA_6.out 1 (.string a.sort) rfl
  have p2 := cellRow HA_6.out 2 (.slice aa a.kids.length ac) rfl
  have q0 := cellRow HB_6.out 0 (.string b.name) rfl
  have q1 := cellRow HB_6.out 1 (.string b.sort) rfl
  have q2 := cellRow HB_6.out 2 (.slice ba b.kids.length bc) rfl
  go_wp2_with fail
  refine (HKA1.out _ H6.out).mono ?_
  rintro e w7 ⟨rfl, hw7⟩
  have H7 := Lib.hid (H6.out.trans hw7)
  have HA_7 := Lib.hid (hw7.heap HA_6.out (fun h => h))
  have HB_7 := Lib.hid (hw7.heap HB_6.out (fun h => h))
  clear hw7 p0 p1 p2 q0 q1 q2
  have p0 := cellRow HA_7.out 0 (.string a.name) rfl
  have p1 := cellRow HA_7.out 1 (.string a.sort) rfl
  have p2 := cellRow HA_7.out 2 (.slice aa a.kids.length ac) rfl
  have q0 := cellRow HB_7.out 0 (.string b.name) rfl
  have q1 := cellRow HB_7.out 1 (.string b.sort) rfl
  have q2 := cellRow HB_7.out 2 (.slice ba b.kids.length bc) rfl
  go_wp2_with fail
  refine (HKB1.out _ H7.out).mono ?_
  rintro e w8 ⟨rfl, hw8⟩
  have H8 := Lib.hid (H7.out.trans hw8)
  have HA_8 := Lib.hid (hw8.heap HA_7.out (fun h => h))
  have HB_8 := Lib.hid (hw8.heap HB_7.out (fun h => h))
  clear hw8 p0 p1 p2 q0 q1 q2
  have p0 := cellRow HA_8.out 0 (.string a.name) rfl
  have p1 := cellRow HA_8.out 1 (.string a.sort) rfl
  have p2 := cellRow HA_8.out 2 (.slice aa a.kids.length ac) rfl
  have q0 := cellRow HB_8.out 0 (.string b.name) rfl
  have q1 := cellRow HB_8.out 1 (.string b.sort) rfl
  have q2 := cellRow HB_8.out 2 (.slice ba b.kids.length bc) rfl
  go_wp2_with fail
  refine (HAV1.out _ H8.out).mono ?_
  rintro e w9 ⟨rfl, hw9⟩
  have H9 := Lib.hid (H8.out.trans hw9)
  have HA_9 := Lib.hid (hw9.heap HA_8.out (fun h => h))
  have HB_9 := Lib.hid (hw9.heap HB_8.out (fun h => h))
  clear hw9 p0 p1 p2 q0 q1 q2
  have p0 := cellRow HA_9.out 0 (.string a.name) rfl
  have p1 := cellRow HA_9.out 1 (.string a.sort) rfl
  have p2 := cellRow HA_9.out 2 (.slice aa a.kids.length ac) rfl
  have q0 := cellRow HB_9.out 0 (.string b.name) rfl
  have q1 := cellRow HB_9.out 1 (.string b.sort) rfl
  have q2 := cellRow HB_9.out 2 (.slice ba b.kids.length bc) rfl
  go_wp2_with fail
  go_ret2
  rw [HV.out]
  exact ⟨rfl, H9.out⟩

end Go.Proofs.YtiimccogojkldaaGreatDoor

/- Greater of the program. -/
namespace Go.Proofs.YtiimccogojkldaaGreatDoor
open Go.RowKit Go.Hw Go
set_option linter.unusedVariables false
set_option linter.unusedSimpArgs false

open Tm
theorem nm_ok {s : By} (h : nmB s = true) : NoCS s ∧ s.size ≤ 40 := by
  unfold nmB at h
  rw [Bool.and_eq_true, Bool.and_eq_true, Bool.and_eq_true, decide_eq_true_eq, List.all_eq_true] at h
  refine ⟨⟨fun hm => ?_, fun hm => ?_⟩, h.1.2⟩
  · have := h.2.2.1 _ hm; revert this; decide
  · have := h.2.2.1 _ hm; revert this; decide
theorem wf_ok {ops : List By} {t : Tm} (h : wf nmB t = true) (hk : knowsP ops t = true) : ∀ x ∈ sbts t, OkN ops x := by
  intro x hx
  obtain ⟨h1, h2, h3⟩ := (formed_nd (wf_formed h)).2 x hx
  have h4 := nm_ok h1
  refine ⟨h4.1, ?_, fun hs => knowsP_iff.1 hk _ (mem_opN.2 ⟨x, hx, hs, rfl⟩), by omega, ?_⟩
  · rcases h3 with e | e
    · rw [e]; exact NoCS.nul
    · exact (nm_ok e.1).1
  · rcases h3 with e | e
    · rw [e]; show (0 : Nat) ≤ 1000; omega
    · have := (nm_ok e.1).2; omega
theorem pair_tl {S : Nat → Prop} {W : World} {n : Nat} {a b : Tm} {ua ub : Value} (h : W.heap[n]? = some (.cells #[.string a.name, .string a.sort, ua, .string b.name, .string b.sort, ub] 25 (0, 0))) (hn : S n) (ha : TlR S W a.kids ua) (hb : TlR S W b.kids ub) : TlR S W [a, b] (.slice (some ⟨n, 0, none⟩) 2 2) := by
  refine .mk _ [ua, ub] _ rfl ?_ (fun i hi => ?_)
  · refine SlR.mk' rfl rfl (Nat.le_refl _) (fun _ => hn) (fun j hj => ?_)
    have hj6 : j < 6 := hj
    rw [Nat.zero_add, cell_of_row W n j _ _ _ h]
    have : j = 0 ∨ j = 1 ∨ j = 2 ∨ j = 3 ∨ j = 4 ∨ j = 5 := by omega
    rcases this with rfl | rfl | rfl | rfl | rfl | rfl <;> rfl
  · have : i = 0 ∨ i = 1 := by simp at hi; omega
    rcases this with rfl | rfl
    · exact ha
    · exact hb
set_option maxRecDepth 100000 in
set_option maxHeartbeats 2000000 in
theorem pgreater_x (ops : List By) (a b : Tm) (ov va vb : Value) (S : Nat → Prop) (w : World) (htab : AscT w) (hpow : Lib.TabIs Tryz.prog w "internal/strconv.uint64pow10" .u64 Lib.pow10Tab) (hO : StR S w ov ops) (ha : TmR S w a va) (hb : TmR S w b vb) (hS : ∀ k, S k → k < w.heap.size) (hol : ops.length ≤ 1000000) (hza : a.size ≤ 10000) (hzb : b.size ≤ 10000) :
    Calls Tryz.prog 12 #[ov, va, vb] w fun e w' => e = .returned (.tuple #[.bool (grF ops a b).1, .int .i64 (grF ops a b).2]) ∧ Ext w w' := by
  obtain ⟨oa, oc, rfl⟩ := SlR.shape hO
  obtain ⟨aa, ac, rfl, hta⟩ := ha
  obtain ⟨ba, bc, rfl, htb⟩ := hb
  dsimp only [tV]
  have HP := Lib.hid (fun W (hW : Ext w W) => prec_x ops _ S W (SlR.kept hO hW (fun _ _ h => h)) (asc_ext htab hW) hol)
  have hpl : ∀ W, Ext w W → TlR (fun k => k < (W.alloc (.cells #[.string a.name, .string a.sort, .slice aa a.kids.length ac, .string b.name, .string b.sort, .slice ba b.kids.length bc] 25)).heap.size) (W.alloc (.cells #[.string a.name, .string a.sort, .slice aa a.kids.length ac, .string b.name, .string b.sort, .slice ba b.kids.length bc] 25)) [a, b] (.slice (some ⟨W.heap.size, 0, none⟩) 2 2) := fun W hW =>
    pair_tl (alloc0 W _) (by simp) ((hta.ext (hW.alloc (.cells #[.string a.name, .string a.sort, .slice aa a.kids.length ac, .string b.name, .string b.sort, .slice ba b.kids.length bc] 25))).weaken (fun k hk => Nat.lt_of_lt_of_le (hS k hk) (hW.alloc (.cells #[.string a.name, .string a.sort, .slice aa a.kids.length ac, .string b.name, .string b.sort, .slice ba b.kids.length bc] 25)).size)) ((htb.ext (hW.alloc (.cells #[.string a.name, .string a.sort, .slice aa a.kids.length ac, .string b.name, .string b.sort, .slice ba b.kids.length bc] 25))).weaken (fun k hk => Nat.lt_of_lt_of_le (hS k hk) (hW.alloc (.cells #[.string a.name, .string a.sort, .slice aa a.kids.length ac, .string b.name, .string b.sort, .slice ba b.kids.length bc] 25)).size))
  have HF := Lib.hid (fun W (hW : Ext w W) => forms_x [a, b] _ (W.alloc (.cells #[.string a.name, .string a.sort, .slice aa a.kids.length ac, .string b.name, .string b.sort, .slice ba b.kids.length bc] 25)) (asc_ext htab (hW.alloc (.cells #[.string a.name, .string a.sort, .slice aa a.kids.length ac, .string b.name, .string b.sort, .slice ba b.kids.length bc] 25))) (hpl W hW) (by simp) (fun t ht => by simp at ht; rcases ht with rfl | rfl <;> omega))
  have HK := Lib.hid (fun W (hW : Ext w W) => know_x ops [a, b] _ _ _ (W.alloc (.cells #[.string a.name, .string a.sort, .slice aa a.kids.length ac, .string b.name, .string b.sort, .slice ba b.kids.length bc] 25)) (SlR.weaken (SlR.kept hO (hW.alloc (.cells #[.string a.name, .string a.sort, .slice aa a.kids.length ac, .string b.name, .string b.sort, .slice ba b.kids.length bc] 25)) (fun _ _ h => h)) (fun k hk => Nat.lt_of_lt_of_le (hS k hk) (hW.alloc (.cells #[.string a.name, .string a.sort, .slice aa a.kids.length ac, .string b.name, .string b.sort, .slice ba b.kids.length bc] 25)).size)) (hpl W hW) (fun k hk => hk) hol (by simp) (fun t ht => by simp at ht; rcases ht with rfl | rfl <;> omega))
  have HNO0 : Hid (precP nmB ops = true → ∀ W, Ext w W → Calls Tryz.prog 42 #[.slice oa ops.length oc] W fun e w' => ∃ b B, e = .returned (.pointer (some ⟨b, 0, none⟩)) ∧ OrdR 144 114 ops (fun _ => False) B w.heap.size w' b [] ∧ Ext W w' ∧ (∀ j, B j → W.heap.size ≤ j)) := Lib.hid (fun hp W hW => newO_x ops _ S w.heap.size W (SlR.kept hO hW (fun _ _ h => h)) (fun k hk => Nat.lt_of_lt_of_le (hS k hk) hW.size) ((precP_iff _ _).1 hp).2.2 hW.size hol)
  have HCM0 : Hid (precP nmB ops = true → wf nmB a = true → wf nmB b = true → knowsP ops a = true → knowsP ops b = true → ∀ W bb B, Ext w W → OrdR 144 114 ops (fun _ => False) B w.heap.size W bb [] → Calls Tryz.prog 43 #[.pointer (some ⟨bb, 0, none⟩), .agg #[.string a.name, .string a.sort, .slice aa a.kids.length ac], .agg #[.string b.name, .string b.sort, .slice ba b.kids.length bc]] W fun e w' => e = .returned (.bool (gt (ixF ops) a b)) ∧ Upd B W w') := Lib.hid (fun hp hfa hfb hka hkb W bb B hW ho =>
    (ocomp_x ops w.heap.size bb [] a b _ _ B S W ho ⟨aa, ac, rfl, hta.ext hW⟩ ⟨ba, bc, rfl, htb.ext hW⟩ hS hW.size (by have h1 := wf_size hfa; have h2 := wf_size hfb; show 0 + _ + _ ≤ _; omega) (wf_ok hfa hka) (wf_ok hfb hkb) (fun W2 h2 => pow_upd hpow ((hW.mono (G := fun j => w.heap.size ≤ j) (fun _ _ x => x.elim)).trans h2) (fun k hk h => by omega))).mono fun e w' ⟨_, _, h1, _, h2, _⟩ => ⟨h1, h2⟩)
  have hall : [a, b].all (wf nmB) = (wf nmB a && wf nmB b) := by simp
  have hall2 : [a, b].all (knowsP ops) = (knowsP ops a && knowsP ops b) := by simp
  rw [hall] at HF
  rw [hall2] at HK
  have H0 : Hid (Ext w ((w.alloc (.cells #[.string a.name, .string a.sort, .slice aa a.kids.length ac] 25)).alloc (.cells #[.string b.name, .string b.sort, .slice ba b.kids.length bc] 25))) := Lib.hid (((Upd.refl (fun _ => False) w).alloc _).alloc _)
  have HA : Hid (((w.alloc (.cells #[.string a.name, .string a.sort, .slice aa a.kids.length ac] 25)).alloc (.cells #[.string b.name, .string b.sort, .slice ba b.kids.length bc] 25)).heap[w.heap.size]? = some (.cells #[.string a.name, .string a.sort, .slice aa a.kids.length ac] 25 (0, 0))) := Lib.hid (allocOld (alloc0 w (.cells #[.string a.name, .string a.sort, .slice aa a.kids.length ac] 25)) (.cells #[.string b.name, .string b.sort, .slice ba b.kids.length bc] 25))
  have HB : Hid (((w.alloc (.cells #[.string a.name, .string a.sort, .slice aa a.kids.length ac] 25)).alloc (.cells #[.string b.name, .string b.sort, .slice ba b.kids.length bc] 25)).heap[w.heap.size + 1]? = some (.cells #[.string b.name, .string b.sort, .slice ba b.kids.length bc] 25 (0, 0))) := Lib.hid (alloc_at (w.alloc (.cells #[.string a.name, .string a.sort, .slice aa a.kids.length ac] 25)) (.cells #[.string b.name, .string b.sort, .slice ba b.kids.length bc] 25) (n := w.heap.size + 1) (by simp))
  clear hO hS hpl hall hall2 hta htb htab hpow
  obtain ⟨P, hP⟩ : ∃ x, precP nmB ops = x := ⟨_, rfl⟩
  rw [hP] at HP
  cases P
  · have HV : Hid (grF ops a b = (false, 1)) := Lib.hid (by unfold grF; simp [hP])
    clear hP
    have p0 := cellRow HA.out 0 (.string a.name) rfl
    have p1 := cellRow HA.out 1 (.string a.sort) rfl
    have p2 := cellRow HA.out 2 (.slice aa a.kids.length ac) rfl
    have q0 := cellRow HB.out 0 (.string b.name) rfl
    have q1 := cellRow HB.out 1 (.string b.sort) rfl
    have q2 := cellRow HB.out 2 (.slice ba b.kids.length bc) rfl
    go_enter Tryz.func12, Tryz.ntmps12
    go_wp2_with fail
    refine (HP.out _ H0.out).mono ?_
    rintro e w4 ⟨rfl, hw4⟩
    have H4 := Lib.hid (H0.out.trans hw4)
    have HA_4 := Lib.hid (hw4.heap HA.out (fun h => h))
    have HB_4 := Lib.hid (hw4.heap HB.out (fun h => h))
    clear hw4 p0 p1 p2 q0 q1 q2
    have p0 := cellRow HA_4.out 0 (.string a.name) rfl
    have p1 := cellRow HA_4.out 1 (.string a.sort) rfl
    have p2 := cellRow HA_4.out 2 (.slice aa a.kids.length ac) rfl
    have q0 := cellRow HB_4.out 0 (.string b.name) rfl
    have q1 := cellRow HB_4.out 1 (.string b.sort) rfl
    have q2 := cellRow HB_4.out 2 (.slice ba b.kids.length bc) rfl
    go_wp2_with fail
    go_ret2
    rw [HV.out]
    exact ⟨rfl, H4.out⟩
  cases hF : (wf nmB a && wf nmB b)
  · rw [hF] at HF
    have hfo : wf nmB a = false ∨ wf nmB b = false := by cases h1 : wf nmB a <;> cases h2 : wf nmB b <;> simp_all
    clear hF
    have HV : Hid (grF ops a b = (false, 1)) := Lib.hid (by unfold grF; simp [hP, hfo])
    clear hP hfo
    have p0 := cellRow HA.out 0 (.string a.name) rfl
    have p1 := cellRow HA.out 1 (.string a.sort) rfl
    have p2 := cellRow HA.out 2 (.slice aa a.kids.length ac) rfl
    have q0 := cellRow HB.out 0 (.string b.name) rfl
    have q1 := cellRow HB.out 1 (.string b.sort) rfl
    have q2 := cellRow HB.out 2 (.slice ba b.kids.length bc) rfl
    go_enter Tryz.func12, Tryz.ntmps12
    go_wp2_with fail
    refine (HP.out _ H0.out).mono ?_
    rintro e w4 ⟨rfl, hw4⟩
    have H4 := Lib.hid (H0.out.trans hw4)
    have HA_4 := Lib.hid (hw4.heap HA.out (fun h => h))
    have HB_4 := Lib.hid (hw4.heap HB.out (fun h => h))
    clear hw4 p0 p1 p2 q0 q1 q2
    have p0 := cellRow HA_4.out 0 (.string a.name) rfl
    have p1 := cellRow HA_4.out 1 (.string a.sort) rfl
    have p2 := cellRow HA_4.out 2 (.slice aa a.kids.length ac) rfl
    have q0 := cellRow HB_4.out 0 (.string b.name) rfl
    have q1 := cellRow HB_4.out 1 (.string b.sort) rfl
    have q2 := cellRow HB_4.out 2 (.slice ba b.kids.length bc) rfl
    go_wp2_with fail
    refine (HF.out _ H4.out).mono ?_
    rintro e w5 ⟨rfl, hw5⟩
    have H5 := Lib.hid ((H4.out.alloc (.cells #[.string a.name, .string a.sort, .slice aa a.kids.length ac, .string b.name, .string b.sort, .slice ba b.kids.length bc] 25)).trans hw5)
    have HA_5 := Lib.hid (hw5.heap (allocOld HA_4.out (.cells #[.string a.name, .string a.sort, .slice aa a.kids.length ac, .string b.name, .string b.sort, .slice ba b.kids.length bc] 25)) (fun h => h))
    have HB_5 := Lib.hid (hw5.heap (allocOld HB_4.out (.cells #[.string a.name, .string a.sort, .slice aa a.kids.length ac, .string b.name, .string b.sort, .slice ba b.kids.length bc] 25)) (fun h => h))
    clear hw5 p0 p1 p2 q0 q1 q2
    have p0 := cellRow HA_5.out 0 (.string a.name) rfl
    have p1 := cellRow HA_5.out 1 (.string a.sort) rfl
    have p2 := cellRow HA_5.out 2 (.slice aa a.kids.length ac) rfl
    have q0 := cellRow HB_5.out 0 (.string b.name) rfl
    have q1 := cellRow HB_5.out 1 (.string b.sort) rfl
    have q2 := cellRow HB_5.out 2 (.slice ba b.kids.length bc) rfl
    go_wp2_with fail
    go_ret2
    rw [HV.out]
    exact ⟨rfl, H5.out⟩
  rw [hF] at HF
  obtain ⟨hfa, hfb⟩ : wf nmB a = true ∧ wf nmB b = true := by rw [Bool.and_eq_true] at hF; exact hF
  have HFA := Lib.hid hfa
  have HFB := Lib.hid hfb
  clear hF
  cases hK : (knowsP ops a && knowsP ops b)
  · rw [hK] at HK
    have hko : knowsP ops a = false ∨ knowsP ops b = false := by cases h1 : knowsP ops a <;> cases h2 : knowsP ops b <;> simp_all
    clear hK
    have HV : Hid (grF ops a b = (false, 9)) := Lib.hid (by unfold grF; simp [hP, hfa, hfb, hko])
    clear hP hfa hfb hko
    have p0 := cellRow HA.out 0 (.string a.name) rfl
    have p1 := cellRow HA.out 1 (.string a.sort) rfl
    have p2 := cellRow HA.out 2 (.slice aa a.kids.length ac) rfl
    have q0 := cellRow HB.out 0 (.string b.name) rfl
    have q1 := cellRow HB.out 1 (.string b.sort) rfl
    have q2 := cellRow HB.out 2 (.slice ba b.kids.length bc) rfl
    go_enter Tryz.func12, Tryz.ntmps12
    go_wp2_with fail
    refine (HP.out _ H0.out).mono ?_
    rintro e w4 ⟨rfl, hw4⟩
    have H4 := Lib.hid (H0.out.trans hw4)
    have HA_4 := Lib.hid (hw4.heap HA.out (fun h => h))
    have HB_4 := Lib.hid (hw4.heap HB.out (fun h => h))
    clear hw4 p0 p1 p2 q0 q1 q2
    have p0 := cellRow HA_4.out 0 (.string a.name) rfl
    have p1 := cellRow HA_4.out 1 (.string a.sort) rfl
    have p2 := cellRow HA_4.out 2 (.slice aa a.kids.length ac) rfl
    have q0 := cellRow HB_4.out 0 (.string b.name) rfl
    have q1 := cellRow HB_4.out 1 (.string b.sort) rfl
    have q2 := cellRow HB_4.out 2 (.slice ba b.kids.length bc) rfl
    go_wp2_with fail
    refine (HF.out _ H4.out).mono ?_
    rintro e w5 ⟨rfl, hw5⟩
    have H5 := Lib.hid ((H4.out.alloc (.cells #[.string a.name, .string a.sort, .slice aa a.kids.length ac, .string b.name, .string b.sort, .slice ba b.kids.length bc] 25)).trans hw5)
    have HA_5 := Lib.hid (hw5.heap (allocOld HA_4.out (.cells #[.string a.name, .string a.sort, .slice aa a.kids.length ac, .string b.name, .string b.sort, .slice ba b.kids.length bc] 25)) (fun h => h))
    have HB_5 := Lib.hid (hw5.heap (allocOld HB_4.out (.cells #[.string a.name, .string a.sort, .slice aa a.kids.length ac, .string b.name, .string b.sort, .slice ba b.kids.length bc] 25)) (fun h => h))
    clear hw5 p0 p1 p2 q0 q1 q2
    have p0 := cellRow HA_5.out 0 (.string a.name) rfl
    have p1 := cellRow HA_5.out 1 (.string a.sort) rfl
    have p2 := cellRow HA_5.out 2 (.slice aa a.kids.length ac) rfl
    have q0 := cellRow HB_5.out 0 (.string b.name) rfl
    have q1 := cellRow HB_5.out 1 (.string b.sort) rfl
    have q2 := cellRow HB_5.out 2 (.slice ba b.kids.length bc) rfl
    go_wp2_with fail
    refine (HK.out _ H5.out).mono ?_
    rintro e w6 ⟨rfl, hw6⟩
    have H6 := Lib.hid ((H5.out.alloc (.cells #[.string a.name, .string a.sort, .slice aa a.kids.length ac, .string b.name, .string b.sort, .slice ba b.kids.length bc] 25)).trans hw6)
    have HA_6 := Lib.hid (hw6.heap (allocOld HA_5.out (.cells #[.string a.name, .string a.sort, .slice aa a.kids.length ac, .string b.name, .string b.sort, .slice ba b.kids.length bc] 25)) (fun h => h))
    have HB_6 := Lib.hid (hw6.heap (allocOld HB_5.out (.cells #[.string a.name, .string a.sort, .slice aa a.kids.length ac, .string b.name, .string b.sort, .slice ba b.kids.length bc] 25)) (fun h => h))
    clear hw6 p0 p1 p2 q0 q1 q2
    have p0 := cellRow HA_6.out 0 (.string a.name) rfl
    have p1 := cellRow HA_6.out 1 (.string a.sort) rfl
    have p2 := cellRow HA_6.out 2 (.slice aa a.kids.length ac) rfl
    have q0 := cellRow HB_6.out 0 (.string b.name) rfl
    have q1 := cellRow HB_6.out 1 (.string b.sort) rfl
    have q2 := cellRow HB_6.out 2 (.slice ba b.kids.length bc) rfl
    go_wp2_with fail
    go_ret2
    rw [HV.out]
    exact ⟨rfl, H6.out⟩
  rw [hK] at HK
  obtain ⟨hka, hkb⟩ : knowsP ops a = true ∧ knowsP ops b = true := by rw [Bool.and_eq_true] at hK; exact hK
  clear hK
  have HNO := Lib.hid (HNO0.out hP)
  have HCM := Lib.hid (HCM0.out hP hfa hfb hka hkb)
  obtain ⟨GV, hGV⟩ : ∃ x, gt (ixF ops) a b = x := ⟨_, rfl⟩
  rw [hGV] at HCM
  have HV : Hid (grF ops a b = (GV, 0)) := Lib.hid (by unfold grF; simp [hP, hfa, hfb, hka, hkb, hGV])
  clear hP hfa hfb hka hkb hGV
  have p0 := cellRow HA.out 0 (.string a.name) rfl
  have p1 := cellRow HA.out 1 (.string a.sort) rfl
  have p2 := cellRow HA.out 2 (.slice aa a.kids.length ac) rfl
  have q0 := cellRow HB.out 0 (.string b.name) rfl
  have q1 := cellRow HB.out 1 (.string b.sort) rfl
  have q2 := cellRow HB.out 2 (.slice ba b.kids.length bc) rfl
  go_enter Tryz.func12, Tryz.ntmps12
  go_wp2_with fail
  refine (HP.out _ H0.out).mono ?_
  rintro e w4 ⟨rfl, hw4⟩
  have H4 := Lib.hid (H0.out.trans hw4)
  have HA_4 := Lib.hid (hw4.heap HA.out (fun h => h))
  have HB_4 := Lib.hid (hw4.heap HB.out (fun h => h))
  clear hw4 p0 p1 p2 q0 q1 q2
  have p0 := cellRow HA_4.out 0 (.string a.name) rfl
  have p1 := cellRow HA_4.out 1 (.string a.sort) rfl
  have p2 := cellRow HA_4.out 2 (.slice aa a.kids.length ac) rfl
  have q0 := cellRow HB_4.out 0 (.string b.name) rfl
  have q1 := cellRow HB_4.out 1 (.string b.sort) rfl
  have q2 := cellRow HB_4.out 2 (.slice ba b.kids.length bc) rfl
  go_wp2_with fail
  refine (HF.out _ H4.out).mono ?_
  rintro e w5 ⟨rfl, hw5⟩
  have H5 := Lib.hid ((H4.out.alloc (.cells #[.string a.name, .string a.sort, .slice aa a.kids.length ac, .string b.name, .string b.sort, .slice ba b.kids.length bc] 25)).trans hw5)
  have HA_5 := Lib.hid (hw5.heap (allocOld HA_4.out (.cells #[.string a.name, .string a.sort, .slice aa a.kids.length ac, .string b.name, .string b.sort, .slice ba b.kids.length bc] 25)) (fun h => h))
  have HB_5 := Lib.hid (hw5.heap (allocOld HB_4.out (.cells #[.string a.name, .string a.sort, .slice aa a.kids.length ac, .string b.name, .string b.sort, .slice ba b.kids.length bc] 25)) (fun h => h))
  clear hw5 p0 p1 p2 q0 q1 q2
  have p0 := cellRow HA_5.out 0 (.string a.name) rfl
  have p1 := cellRow HA_5.out 1 (.string a.sort) rfl
  have p2 := cellRow HA_5.out 2 (.slice aa a.kids.length ac) rfl
  have q0 := cellRow HB_5.out 0 (.string b.name) rfl
  have q1 := cellRow HB_5.out 1 (.string b.sort) rfl
  have q2 := cellRow HB_5.out 2 (.slice ba b.kids.length bc) rfl
  go_wp2_with fail
  refine (HK.out _ H5.out).mono ?_
  rintro e w6 ⟨rfl, hw6⟩
  have H6 := Lib.hid ((H5.out.alloc (.cells #[.string a.name, .string a.sort, .slice aa a.kids.length ac, .string b.name, .string b.sort, .slice ba b.kids.length bc] 25)).trans hw6)
  have HA_6 := Lib.hid (hw6.heap (allocOld HA_5.out (.cells #[.string a.name, .string a.sort, .slice aa a.kids.length ac, .string b.name, .string b.sort, .slice ba b.kids.length bc] 25)) (fun h => h))
  have HB_6 := Lib.hid (hw6.heap (allocOld HB_5.out (.cells #[.string a.name, .string a.sort, .slice aa a.kids.length ac, .string b.name, .string b.sort, .slice ba b.kids.length bc] 25)) (fun h => h))
  clear hw6 p0 p1 p2 q0 q1 q2
  have p0 := cellRow HA_6.out 0 (.string a.name) rfl
  have p1 := cellRow HA_6.out 1 (.string a.sort) rfl
  have p2 := cellRow HA_6.out 2 (.slice aa a.kids.length ac) rfl
  have q0 := cellRow HB_6.out 0 (.string b.name) rfl
  have q1 := cellRow HB_6.out 1 (.string b.sort) rfl
  have q2 := cellRow HB_6.out 2 (.slice ba b.kids.length bc) rfl
  go_wp2_with fail
  have HBA0 := HA_6
  have HBB0 := HB_6
  have HD0 : Hid (Ext w w6.drew) := Lib.hid (H6.out.drew)
  have hbA := HBA0.out
  have hbB := HBB0.out
  go_region_held3 (fun w' => w'.cell? ⟨w.heap.size, 0, none⟩ = some (.string a.name) ∧ w'.cell? ⟨w.heap.size, 1, none⟩ = some (.string a.sort) ∧ w'.cell? ⟨w.heap.size, 2, none⟩ = some (.slice aa a.kids.length ac) ∧ w'.cell? ⟨w.heap.size + 1, 0, none⟩ = some (.string b.name) ∧ w'.cell? ⟨w.heap.size + 1, 1, none⟩ = some (.string b.sort) ∧ w'.cell? ⟨w.heap.size + 1, 2, none⟩ = some (.slice ba b.kids.length bc))
    (first | go_keep | exact ⟨cellRow hbA 0 (.string a.name) rfl, cellRow hbA 1 (.string a.sort) rfl, cellRow hbA 2 (.slice aa a.kids.length ac) rfl, cellRow hbB 0 (.string b.name) rfl, cellRow hbB 1 (.string b.sort) rfl, cellRow hbB 2 (.slice ba b.kids.length bc) rfl⟩)
    (first
      | (go_at_call 42; refine (HNO.out w6.drew HD0.out).mono ?_; rintro e w7 ⟨b7, B7, rfl, ho7, hw7, hb7⟩; have hbA := hw7.heap (show w6.drew.heap[w.heap.size]? = _ from HBA0.out) (fun h => h); have hbB := hw7.heap (show w6.drew.heap[w.heap.size + 1]? = _ from HBB0.out) (fun h => h); have HBA7 := Lib.hid hbA; have HBB7 := Lib.hid hbB; have HX7 := Lib.hid (And.intro ho7 (And.intro (HD0.out.trans hw7) hb7)); clear ho7 hw7 hb7)
      | (go_at_call 43; refine (HCM.out w7 b7 B7 HX7.out.2.1 HX7.out.1).mono ?_; rintro e w8 ⟨rfl, hu8⟩; have HS8 : Hid (∀ j, B7 j → w6.heap.size ≤ j) := Lib.hid HX7.out.2.2; have hbA := hu8.heap HBA7.out (fun h => by have h1 := HS8.out _ h; have h2 := (Array.getElem?_eq_some_iff.1 HBA0.out).1; omega); have hbB := hu8.heap HBB7.out (fun h => by have h1 := HS8.out _ h; have h2 := (Array.getElem?_eq_some_iff.1 HBB0.out).1; omega); have HU8 := Lib.hid hu8; clear hu8))
  all_goals (try (go_wp2_with fail))
  all_goals go_ret2
  all_goals (
    rw [HV.out]
    exact ⟨rfl, HX7.out.2.1.trans' HU8.out (fun j hj h => by have h1 := HS8.out j h; have h2 := HD0.out.size; have h3 : w.heap.size ≤ w6.heap.size := h2; omega)⟩)

end Go.Proofs.YtiimccogojkldaaGreatDoor

/- Rules in memory: as lists of their terms. -/
namespace Go.Hw
open Go.RowKit Tm
set_option linter.unusedVariables false
set_option linter.unusedSimpArgs false
abbrev rg (L : List Rl) (i : Nat) : Rl := L.getD i (default, default)
def flR (L : List Rl) : List Tm := L.flatMap fun r => [r.1, r.2]
theorem flR_len (L : List Rl) : (flR L).length = 2 * L.length := by
  induction L with
  | nil => rfl
  | cons a L ih => unfold flR at ih ⊢; rw [List.flatMap_cons, List.length_append, ih]; simp; omega
theorem flR_append (A B : List Rl) : flR (A ++ B) = flR A ++ flR B := by unfold flR; rw [List.flatMap_append]
theorem flR_at : ∀ (L : List Rl) (i : Nat), i < L.length → tg (flR L) (2 * i) = (rg L i).1 ∧ tg (flR L) (2 * i + 1) = (rg L i).2
  | r :: L, 0, _ => ⟨rfl, rfl⟩
  | r :: L, i + 1, h => by
    have ih := flR_at L i (by simpa using h)
    have e : flR (r :: L) = r.1 :: r.2 :: flR L := rfl
    rw [e, show 2 * (i + 1) = 2 * i + 1 + 1 by omega]
    exact ih
theorem rg_mem {L : List Rl} {i : Nat} (h : i < L.length) : rg L i ∈ L := by unfold rg; rw [List.getD_eq_getElem?_getD, List.getElem?_eq_getElem h]; exact List.getElem_mem h
theorem rg_snoc (L : List Rl) (k : Nat) (h : k < L.length) : L.take (k + 1) = L.take k ++ [rg L k] := by
  rw [List.take_add_one]
  congr 1
  unfold rg
  rw [List.getD_eq_getElem?_getD, List.getElem?_eq_getElem h]
  rfl
theorem mem_flR {L : List Rl} {t : Tm} : t ∈ flR L ↔ ∃ r ∈ L, t = r.1 ∨ t = r.2 := by
  unfold flR
  rw [List.mem_flatMap]
  constructor
  · rintro ⟨r, hr, h⟩
    simp at h
    exact ⟨r, hr, h⟩
  · rintro ⟨r, hr, h⟩
    exact ⟨r, hr, by simpa using h⟩
/-- a list of rules that is read -/
def RuR (S : Nat → Prop) (w : World) (L : List Rl) (v : Value) : Prop := ∃ a cap, v = .slice a L.length cap ∧ TlR S w (flR L) (.slice a (2 * L.length) (2 * cap))
section
variable {S T F : Nat → Prop} {w w' : World} {L : List Rl} {v : Value}
theorem RuR.shape (h : RuR S w L v) : ∃ a cap, v = .slice a L.length cap := by
  obtain ⟨a, cap, e, _⟩ := h
  exact ⟨a, cap, e⟩
theorem RuR.kept (h : RuR S w L v) (hu : Upd F w w') (hF : ∀ k, S k → ¬ F k) : RuR S w' L v := by
  obtain ⟨a, cap, e, h⟩ := h
  exact ⟨a, cap, e, h.kept hu hF⟩
theorem RuR.ext (h : RuR S w L v) (hu : Ext w w') : RuR S w' L v := h.kept hu (fun _ _ h => h)
theorem RuR.weaken (h : RuR S w L v) (hs : ∀ k, S k → T k) : RuR T w L v := by
  obtain ⟨a, cap, e, h⟩ := h
  exact ⟨a, cap, e, h.weaken hs⟩
theorem RuR.at_ {a : Option Addr} {n cap : Nat} (h : RuR S w L (.slice a n cap)) (hL : 0 < L.length) :
    ∃ g off, a = some ⟨g, off, none⟩ ∧ S g ∧ ∀ i, i < L.length → ∃ xa xc ya yc, w.cell? ⟨g, off + i * 6, none⟩ = some (.string (rg L i).1.name) ∧ w.cell? ⟨g, off + i * 6 + 1, none⟩ = some (.string (rg L i).1.sort) ∧ w.cell? ⟨g, off + i * 6 + 2, none⟩ = some (.slice xa (rg L i).1.kids.length xc) ∧
      w.cell? ⟨g, off + i * 6 + 3, none⟩ = some (.string (rg L i).2.name) ∧ w.cell? ⟨g, off + i * 6 + 4, none⟩ = some (.string (rg L i).2.sort) ∧ w.cell? ⟨g, off + i * 6 + 5, none⟩ = some (.slice ya (rg L i).2.kids.length yc) ∧
      TlR S w (rg L i).1.kids (.slice xa (rg L i).1.kids.length xc) ∧ TlR S w (rg L i).2.kids (.slice ya (rg L i).2.kids.length yc) := by
  obtain ⟨a', cap', e, h⟩ := h
  injection e with e1 e2 e3
  subst e1
  have hf := flR_len L
  obtain ⟨g, off, e, hS, hat⟩ := h.at_ (by omega)
  refine ⟨g, off, e, hS, fun i hi => ?_⟩
  obtain ⟨f1, f2⟩ := flR_at L i hi
  obtain ⟨xa, xc, h0, h1, h2, h3⟩ := hat (2 * i) (by omega)
  obtain ⟨ya, yc, k0, k1, k2, k3⟩ := hat (2 * i + 1) (by omega)
  rw [f1] at h0 h1 h2 h3
  rw [f2] at k0 k1 k2 k3
  refine ⟨xa, xc, ya, yc, ?_, ?_, ?_, ?_, ?_, ?_, h3, k3⟩
  · rw [show off + i * 6 = off + 2 * i * 3 by omega]; exact h0
  · rw [show off + i * 6 + 1 = off + (2 * i * 3 + 1) by omega]; exact h1
  · rw [show off + i * 6 + 2 = off + (2 * i * 3 + 2) by omega]; exact h2
  · rw [show off + i * 6 + 3 = off + (2 * i + 1) * 3 by omega]; exact k0
  · rw [show off + i * 6 + 4 = off + ((2 * i + 1) * 3 + 1) by omega]; exact k1
  · rw [show off + i * 6 + 5 = off + ((2 * i + 1) * 3 + 2) by omega]; exact k2
end
end Go.Hw
