/- The texts I36 I37 I38 I39 I40, one behind the other. -/
import Derived.Test.YtiimccogojkldaaGreatDoorZF
import Derived.Test.YtiimccogojkldaaGreatDoorZB
import Derived.Test.YtiimccogojkldaaGreatDoorZE
/- Insertion of a name. -/
namespace Go.Proofs.YtiimccogojkldaaGreatDoor
open Go.RowKit Go.Hw Go
set_option linter.unusedVariables false
set_option linter.unusedSimpArgs false

open Tm
set_option maxRecDepth 100000 in
set_option maxHeartbeats 2000000 in
theorem ins_x (cs : List By) (x : By) (i : Nat) (v : Value) (base vb vc : Nat) (w : World) (hO : w.ownsRow base 9 1 v cs.length (cs.map Value.string)) (hi : i ≤ cs.length) (hx : w.heap[vb]? = some (.cells #[.string x] 9 (0, 0))) (hvb : v.ownBlock ≠ some vb) (hl : cs.length ≤ 1000000) (hbs : base ≤ w.heap.size) :
    Calls Tryz.prog 82 #[v, natV i, .slice (some ⟨vb, 0, none⟩) 1 vc] w fun e w' => ∃ v', e = .returned v' ∧ w'.ownsRow base 9 1 v' (cs.length + 1) ((cs.take i ++ x :: cs.drop i).map Value.string) ∧ Upd (fun k => v.ownBlock = some k) w w' ∧ (∀ k, v'.ownBlock = some k → v.ownBlock = some k ∨ w.heap.size ≤ k) := by
  have hlen : ((cs.take i ++ x :: cs.drop i).map Value.string).length = cs.length + 1 := by simp; omega
  have hmap : (cs.take i ++ x :: cs.drop i).map Value.string = (cs.map Value.string).take i ++ Value.string x :: (cs.map Value.string).drop i := by rw [List.map_append, List.map_cons, List.map_take, List.map_drop]
  have h1c : ∀ u ∈ cs.map Value.string, u.oneCell' = true := fun u hu => by
    obtain ⟨y, _, rfl⟩ := List.mem_map.1 hu
    rfl
  have h1v : ∀ u ∈ [Value.string x], u.oneCell' = true := fun u hu => by
    rw [List.mem_singleton] at hu; subst hu; rfl
  have hvs : ∀ (j : Nat) (u : Value), [Value.string x][j]? = some u → w.cell? ⟨vb, 0 + j, none⟩ = some u := fun j u hj => by
    match j, hj with
    | 0, hj =>
      simp only [List.getElem?_cons_zero, Option.some.injEq] at hj
      rw [← hj]
      exact cellRow hx 0 _ rfl
  have hcl : (cs.map Value.string).length = cs.length := by simp
  have hat := fun j => ins_at (cs.map Value.string) (Value.string x) i j (by rw [hcl]; exact hi)
  have hml : (cs.length + 1) ≤ maxLen := by unfold maxLen; omega
  rcases hO.2 with ⟨rfl, h0⟩ | ⟨g, cap, cur, rfl, hb, hg, hnc, hcm, hcs, ht⟩
  · have hc0 : cs = [] := List.eq_nil_of_length_eq_zero h0
    subst hc0
    obtain rfl : i = 0 := by simpa using hi
    refine (Tryz.slices_Insert_string_end_grow none 0 0 vb 0 1 vc [] [.string x] w (by omega) (by omega) (by omega) (by omega) rfl rfl (fun _ => rfl) (fun a h => by cases h) hvs h1v).mono ?_
    rintro e w' ⟨rfl, rfl⟩
    refine ⟨_, rfl, ?_, ((Upd.refl _ w).drew).alloc _, fun k hk => .inr ?_⟩
    · refine own_mk (by simp) hbs (alloc_at _ _ rfl) (grownCap_ge _ _ _ _) (grownCap_le_maxLen _ _ _ _ (by unfold maxLen; omega)) ?_ (fun j hj => ?_)
      · have := grownCap_ge w (0 + 1) 0 9
        simp only [Array.size_append, List.size_toArray, size_zeroCells, List.nil_append, List.length_singleton]
        show 1 + (grownCap w (0 + 1) 0 9 - (0 + 1)) * 1 = _
        omega
      · obtain rfl : j = 0 := by simpa using hj
        show (#[Value.string x] ++ _)[0]? = some (Value.string x)
        rw [Array.getElem?_append_left (by simp)]
        rfl
    · simp only [Value.ownBlock, Option.some.injEq] at hk
      omega
  · have hcur : ∀ j, j < cs.length → cur[j]? = (cs.map Value.string)[j]? := fun j hj => by
      rw [← ht, Nat.mul_one, List.getElem?_take_of_lt hj, Array.getElem?_toList]
    have hsz : cur.size = cap := by omega
    have hcell : ∀ (j : Nat) (u : Value), (cs.map Value.string)[j]? = some u → w.cell? ⟨g, 0 + j, none⟩ = some u := fun j u hj => by
      have hjl : j < cs.length := by have := (List.getElem?_eq_some_iff.1 hj).1; simpa using this
      rw [Nat.zero_add]
      exact cellRow hg j u (by rw [hcur j hjl]; exact hj)
    have hsome : ∀ j, j < cap → (w.cell? ⟨g, 0 + j, none⟩).isSome = true := fun j hj => by
      rw [Nat.zero_add, cell_of_row w g j cur 9 _ hg, Array.getElem?_eq_getElem (by omega)]
      rfl
    have hfz : ∀ j, w.frozen? ⟨g, j, none⟩ = false := fun j => frozenRow hg j
    have hne : vb ≠ g := fun e => hvb (by rw [e]; rfl)
    have hsa : w.shape? vb = some (9, 1) := by unfold World.shape?; rw [hx]; rfl
    have hsb : w.shape? g = some (9, cap) := by unfold World.shape?; rw [hg]; simp [hsz]
    have hc9 : cap ≤ 9223372036854775807 := by unfold maxLen at hcm; omega
    by_cases hroom : cs.length + 1 ≤ cap
    · by_cases hil : i < cs.length
      · refine (Tryz.slices_Insert_string_shift g 0 cs.length cap i vb 0 1 vc (cs.map Value.string) [.string x] w hil (by omega) hroom hc9 hne hcl rfl hcell (fun j hj => hsome j (by omega)) (fun j hj => hfz _) hvs h1c h1v 9 9 1 cap hsa hsb (by omega) (frozenRow hx _) (frozenRow hx _)).mono ?_
        rintro e w' ⟨rfl, rfl⟩
        refine ⟨_, rfl, ?_, ((Upd.refl _ w).drew).trans (((setCells_upd (b := g) _ _ w.drew).trans (setCells_upd _ _ _)).mono (fun k _ e => by rw [e]; rfl)), fun k hk => .inl hk⟩
        refine own_mk hlen hb (setCells_heap _ _ _ _ (setCells_heap _ _ _ _ hg)) hroom hcm (by rw [setL_size, setL_size]; exact hsz) (fun j hj => ?_)
        rw [hmap, hat, setL_at _ _ _ _ (by rw [setL_size]; simp; omega), setL_at _ _ _ _ (by simp; omega)]
        simp only [List.length_drop, hcl, List.length_singleton, Nat.zero_add]
        by_cases h1 : j < i
        · rw [if_neg (by omega), if_neg (by omega), if_pos h1]
          exact hcur j (by omega)
        · by_cases h2 : j = i
          · subst h2
            rw [if_pos (by omega), if_neg h1, if_pos rfl, Nat.sub_self]
            rfl
          · rw [if_neg (by omega), if_pos (by omega), if_neg h1, if_neg h2, List.getElem?_drop]
            congr 1
            omega
      · obtain rfl : i = cs.length := by omega
        refine (Tryz.slices_Insert_string_end_room g 0 cs.length cap vb 0 1 vc [.string x] w (by omega) hroom hc9 rfl (fun j hj => by rw [Nat.zero_add]; have := hsome (cs.length + j) (by omega); rw [Nat.zero_add] at this; exact this) (fun j hj => hfz _) hvs h1v).mono ?_
        rintro e w' ⟨rfl, rfl⟩
        refine ⟨_, rfl, ?_, (setCells_upd (b := g) _ _ w).mono (fun k _ e => by rw [e]; rfl), fun k hk => .inl hk⟩
        refine own_mk hlen hb (setCells_heap _ _ _ _ hg) hroom hcm (by rw [setL_size]; exact hsz) (fun j hj => ?_)
        rw [hmap, hat, setL_at _ _ _ _ (by simp; omega)]
        simp only [List.length_singleton, Nat.zero_add]
        by_cases h1 : j < cs.length
        · rw [if_neg (by omega), if_pos h1]
          exact hcur j h1
        · obtain rfl : j = cs.length := by omega
          rw [if_pos (by omega), if_neg h1, if_pos rfl, Nat.sub_self]
          rfl
    · have hge := grownCap_ge w (cs.length + 1) cap 9
      have hgm := grownCap_le_maxLen w (cs.length + 1) cap 9 hml
      by_cases hil : i < cs.length
      · refine (Tryz.slices_Insert_string_grow g 0 cs.length cap i vb 0 1 vc (cs.map Value.string) [.string x] w hil (by omega) hnc (by omega) (by omega) hcl rfl hcell hvs h1c h1v).mono ?_
        rintro e w' ⟨rfl, rfl⟩
        have hz1 : (Value.string ⟨#[]⟩).cells.size = 1 := rfl
        refine ⟨_, rfl, ?_, ?_, fun k hk => .inr ?_⟩
        · refine own_mk hlen hbs (setCells_heap _ _ _ _ (setCells_heap (w := (w.alloc _).drew) _ _ _ (alloc_at w _ rfl))) hge hgm ?_ (fun j hj => ?_)
          · rw [setL_size, setL_size]
            simp only [Array.size_append, List.size_toArray, size_zeroCells, List.length_take, hcl, hz1]
            omega
          · rw [hmap, hat, setL_at _ _ _ _ (by rw [setL_size]; simp only [Array.size_append, List.size_toArray, size_zeroCells, List.length_take, hcl, hz1, List.length_drop]; omega), setL_at _ _ _ _ (by simp only [Array.size_append, List.size_toArray, size_zeroCells, List.length_take, hcl, hz1, List.length_singleton]; omega)]
            simp only [List.length_drop, hcl, List.length_singleton]
            by_cases h1 : j < i
            · rw [if_neg (by omega), if_neg (by omega), if_pos h1, Array.getElem?_append_left (by simp; omega), Array.getElem?_append_left (by simp; omega), List.getElem?_toArray, List.getElem?_take_of_lt h1]
            · by_cases h2 : j = i
              · subst h2
                rw [if_neg (by omega), if_pos (by omega), if_neg h1, if_pos rfl, Nat.sub_self]
                rfl
              · rw [if_pos (by omega), if_neg h1, if_neg h2, List.getElem?_drop]
                congr 1
                omega
        · have u1 : Upd (fun k => (Value.slice (some ⟨g, 0, none⟩) cs.length cap).ownBlock = some k) w ((w.alloc (.cells (((cs.map Value.string).take i).toArray ++ Builtin.zeroCells (Value.string ⟨#[]⟩).cells (cs.length + 1 - i) ++ Builtin.zeroCells (Value.string ⟨#[]⟩).cells (grownCap w (cs.length + 1) cap 9 - (cs.length + 1))) 9)).drew) := ((Upd.refl _ w).alloc _).drew
          refine ((u1.trans' (setCells_upd (b := w.heap.size) _ _ _) (fun k hk e => by omega)).drew).trans' (setCells_upd (b := w.heap.size) _ _ _) (fun k hk e => by omega)
        · simp only [Value.ownBlock, Option.some.injEq] at hk
          omega
      · obtain rfl : i = cs.length := by omega
        refine (Tryz.slices_Insert_string_end_grow (some ⟨g, 0, none⟩) cs.length cap vb 0 1 vc (cs.map Value.string) [.string x] w (by omega) hnc (by omega) (by omega) hcl rfl (fun h => by cases h) (fun a h j u hj => by cases h; have := hcell j u hj; rw [Nat.zero_add] at this; unfold Addr.add; split; (rename_i h0; subst h0; exact this); simpa using this) hvs h1v).mono ?_
        rintro e w' ⟨rfl, rfl⟩
        have hz1 : (Value.string ⟨#[]⟩).cells.size = 1 := rfl
        refine ⟨_, rfl, ?_, ((Upd.refl _ w).drew).alloc _, fun k hk => .inr ?_⟩
        · refine own_mk hlen hbs (alloc_at _ _ rfl) hge hgm ?_ (fun j hj => ?_)
          · simp only [Array.size_append, List.size_toArray, size_zeroCells, List.length_append, hcl, hz1, List.length_singleton]
            omega
          · rw [hmap, hat, Array.getElem?_append_left (by simp; omega), List.getElem?_toArray]
            by_cases h1 : j < cs.length
            · rw [if_pos h1, List.getElem?_append_left (by rw [hcl]; exact h1)]
            · obtain rfl : j = cs.length := by omega
              rw [if_neg h1, if_pos rfl, List.getElem?_append_right (by rw [hcl]; omega), hcl, Nat.sub_self]
              rfl
        · simp only [Value.ownBlock, Option.some.injEq] at hk
          omega

end Go.Proofs.YtiimccogojkldaaGreatDoor

/- operations. -/
namespace Go.Proofs.YtiimccogojkldaaGreatDoor
open Go.RowKit Go.Hw Go
set_option linter.unusedVariables false
set_option linter.unusedSimpArgs false

open Tm
theorem ris_low {l : List By} {s : By} (h : Ris l) : (∀ t, t < lowF l s → blt (l.getD t nul) s = true) ∧ (∀ t, lowF l s ≤ t → t < l.length → blt (l.getD t nul) s = false) := by
  have hg : ∀ t, (h : t < l.length) → l.getD t nul = l[t] := fun t h => by rw [List.getD_eq_getElem?_getD, List.getElem?_eq_getElem h]; rfl
  have hle : lowF l s ≤ l.length := List.findIdx_le_length
  refine ⟨fun t ht => ?_, fun t ht htl => ?_⟩
  · rw [hg t (by omega)]
    have := List.not_of_lt_findIdx (show t < lowF l s from ht)
    simpa using this
  · rw [hg t htl]
    have h0 : lowF l s < l.length := by omega
    have h1 : (!blt l[lowF l s] s) = true := List.findIdx_getElem (p := fun x => !blt x s) (w := h0)
    have h2 : blt l[lowF l s] s = false := by simpa using h1
    rcases Nat.eq_or_lt_of_le ht with e | e
    · have : l[t] = l[lowF l s] := by congr 1; omega
      rw [this]; exact h2
    · rw [Bool.eq_false_iff]
      intro h3
      have := blt_trans (List.pairwise_iff_getElem.1 h (lowF l s) t h0 htl e) h3
      rw [h2] at this; cases this
theorem ris_mem {l : List By} {s : By} (h : Ris l) : (lowF l s < l.length ∧ l.getD (lowF l s) nul = s) ↔ s ∈ l := by
  have hg : ∀ t, (h : t < l.length) → l.getD t nul = l[t] := fun t h => by rw [List.getD_eq_getElem?_getD, List.getElem?_eq_getElem h]; rfl
  constructor
  · rintro ⟨h1, h2⟩
    rw [← h2, hg _ h1]
    exact List.getElem_mem h1
  · intro hm
    obtain ⟨p, hp, rfl⟩ := List.mem_iff_getElem.1 hm
    have h1 := ris_low (s := l[p]) h
    have h3 : lowF l l[p] = p := by
      rcases Nat.lt_trichotomy (lowF l l[p]) p with e | e | e
      · have h4 := h1.2 _ (Nat.le_refl _) (by omega)
        rw [hg _ (by omega), List.pairwise_iff_getElem.1 h _ p (by omega) hp e] at h4
        cases h4
      · exact e
      · have h4 := h1.1 p e
        rw [hg p hp, blt_irrefl] at h4
        cases h4
    rw [h3]
    exact ⟨hp, hg p hp⟩
theorem bsearch_x (l : List By) (x : By) (v : Value) (S : Nat → Prop) (w : World) (hR : StR S w v l) (hr : Ris l) (hl : l.length ≤ 1000000) :
    Calls Tryz.prog 81 #[v, .string x] w fun e w' => e = .returned (.tuple #[natV (lowF l x), .bool (decide (x ∈ l))]) ∧ Ext w w' := by
  obtain ⟨a, cap, rfl⟩ := SlR.shape hR
  by_cases h0 : 0 < l.length
  · obtain ⟨g, off, hga, _, hat⟩ := SlR.one_at (d := nul) hR h0
    subst hga
    obtain ⟨h1, h2⟩ := ris_low (s := x) hr
    have hm := ris_mem (s := x) hr
    have hle : lowF l x ≤ l.length := List.findIdx_le_length
    have hbs : Lib.bsGo (fun t => Op.bytesLess (ByteArray.toList (if t < l.length then l.getD t nul else x)) x.toList) l.length 0 l.length = lowF l x := by
      refine Lib.bsGo_spec _ (lowF l x) (fun t ht => ?_) (fun t ht => ?_) l.length 0 l.length (by omega) (Nat.zero_le _) hle
      · rw [if_pos (by omega), bless]; exact h1 t ht
      · by_cases htl : t < l.length
        · rw [if_pos htl, bless]; exact h2 t ht htl
        · rw [if_neg htl, bless]; exact blt_irrefl _
    refine (Tryz.slices_BinarySearch_string g off l.length cap (fun t => if t < l.length then l.getD t nul else x) x w (by omega) (fun j hj => by rw [if_pos hj]; exact hat j hj)).mono ?_
    rintro e w' ⟨rfl, q, rfl⟩
    refine ⟨?_, (Upd.refl _ w).drewN' q⟩
    rw [hbs]
    suffices hd : decide (lowF l x < l.length ∧ (if lowF l x < l.length then l.getD (lowF l x) nul else x) = x) = decide (x ∈ l) by rw [hd]
    rw [Bool.eq_iff_iff, decide_eq_true_eq, decide_eq_true_eq, ← hm]
    constructor
    · rintro ⟨k1, k2⟩; rw [if_pos k1] at k2; exact ⟨k1, k2⟩
    · rintro ⟨k1, k2⟩; rw [if_pos k1]; exact ⟨k1, k2⟩
  · have hl0 : l = [] := List.eq_nil_of_length_eq_zero (by omega)
    subst hl0
    refine (Tryz.slices_BinarySearch_string_empty a cap x w).mono ?_
    rintro e w' ⟨rfl, rfl⟩
    exact ⟨rfl, Upd.refl _ _⟩
theorem own_str {S : Nat → Prop} {base e : Nat} {W : World} {v : Value} {l : List By} (h : W.ownsRow base e 1 v l.length (l.map Value.string)) : StR (fun _ => True) W v l := (SlR.of_own h).weaken (fun _ _ => trivial)
set_option maxRecDepth 100000 in
set_option maxHeartbeats 2000000 in
theorem opers_x (base : Nat) : ∀ (t : Tm) (l : List By) (v v' : Value) (T : Nat → Prop) (w : World), Ris l → w.ownsRow base 9 1 v (l).length ((l).map Value.string) → TmR T w t v' → (∀ k, T k → k < base) → base ≤ w.heap.size → l.length + t.size ≤ 100000 →
    Calls Tryz.prog 51 #[v', v] w fun e w' => ∃ r, e = .returned r ∧ w'.ownsRow base 9 1 r (sFoldO l (opN t)).length ((sFoldO l (opN t)).map Value.string) ∧ Upd (fun j => v.ownBlock = some j) w w' ∧ (∀ j, r.ownBlock = some j → v.ownBlock = some j ∨ w.heap.size ≤ j) := by
  refine Tm.ind (fun nm so L ih => ?_)
  intro l v v' T w hri hO hT hTb hbw hsz
  obtain ⟨a, cap, rfl, hT⟩ := hT
  obtain ⟨va, vc, rfl⟩ := own_shape hO
  dsimp only [tV, Tm.name, Tm.sort, Tm.kids] at hT ⊢
  have HTL := Lib.hid hT
  have HIH := Lib.hid ih
  have HRI := Lib.hid hri
  have HOW := Lib.hid hO
  have HBW := Lib.hid hbw
  have HTb := Lib.hid hTb
  have hroom : l.length + sizes L + 1 ≤ 100000 := by rw [size_eq] at hsz; simp only [Tm.kids] at hsz; omega
  have HR0 := Lib.hid hroom
  have hlL : L.length ≤ 100000 := by have h1 := length_le_sizes L; omega
  have HZ : Hid (Ext w (w.alloc (.cells #[.string nm, .string so, .slice a L.length cap] 25))) := Lib.hid ((Upd.refl (fun _ => False) w).alloc _)
  have HB := Lib.hid (alloc0 w (.cells #[.string nm, .string so, .slice a L.length cap] 25))
  have c0 := cellRow HB.out 0 (.string nm) rfl
  have c1 := cellRow HB.out 1 (.string so) rfl
  have c2 := cellRow HB.out 2 (.slice a L.length cap) rfl
  clear ih hT hsz hroom hri hO hbw
  by_cases hs0 : so.size = 0
  · have hse := empty_is _ hs0
    subst hse
    have HBS := Lib.hid (fun W (hW : Ext w W) => bsearch_x l nm _ (fun _ => True) W (SlR.kept (own_str (S := fun _ => True) HOW.out) hW (fun _ _ h => h)) HRI.out (by have := HR0.out; omega))
    by_cases hm : nm ∈ l
    · have hmd : decide (nm ∈ l) = true := decide_eq_true hm
      rw [hmd] at HBS
      have HOPN : Hid (sFoldO l (opN (.mk nm ⟨#[]⟩ L)) = sFoldO l (L.flatMap opN)) := Lib.hid (by rw [opN_mk, if_pos (show (⟨#[]⟩ : By) = nul from rfl), sFoldO_append]; congr 1; show sIns l nm = l; unfold sIns; rw [if_pos hm])
      clear hmd hm
      go_enter Tryz.func51, Tryz.ntmps51
      go_wp2_with fail
      refine (HBS.out _ HZ.out).mono ?_
      rintro e w3 ⟨rfl, hw3⟩
      have HE3 := Lib.hid (HZ.out.trans hw3)
      have HB3 := Lib.hid (hw3.heap HB.out (fun h => h))
      have c2' := cellRow HB3.out 2 (.slice a L.length cap) rfl
      have HF3 := Lib.hid (own_kept HOW.out HE3.out (fun _ _ h => h))
      have HU3 : Hid (Upd (fun j => (Value.slice va l.length vc).ownBlock = some j) w w3) := Lib.hid (HE3.out.mono (fun _ _ x => x.elim))
      have HK3 : Hid (∀ j, (Value.slice va l.length vc).ownBlock = some j → (Value.slice va l.length vc).ownBlock = some j ∨ w.heap.size ≤ j) := Lib.hid (fun j h => .inl h)
      clear hw3 c0 c1 c2
      go_wp2_with fail
      go_loopg [1, 30] L.length (fun gk lv iv wr => ∃ k : Nat, iv = .int .i64 (k : Int) ∧ gk = L.length - k ∧ k ≤ L.length ∧ Hid (wr.ownsRow base 9 1 lv (sFoldO (l) ((L.take k).flatMap opN)).length ((sFoldO (l) ((L.take k).flatMap opN)).map Value.string)) ∧ Hid (Upd (fun j => (Value.slice va l.length vc).ownBlock = some j) w wr) ∧ Hid (∀ j, lv.ownBlock = some j → (Value.slice va l.length vc).ownBlock = some j ∨ w.heap.size ≤ j))
      case atStart => exact ⟨0, rfl, rfl, Nat.zero_le _, HF3, HU3, HK3⟩
      case round =>
        obtain ⟨k, rfl, rfl, hk, HFk, HUk, HBk⟩ := hrel
        obtain ⟨fa, fc, hlv⟩ := own_shape HFk.out
        subst hlv
        by_cases hlt : k < L.length
        · obtain ⟨g, off, rfl, _, hat⟩ := (HTL.out.kept HUk.out (fun j hj e => by have h1 := HTb.out j hj; have h2 := (HOW.out.lt j e).1; omega)).at_ (by omega)
          obtain ⟨xa, xc, q0, q1, q2, hkid⟩ := hat k hlt
          have z0 : (0 : Int) ≤ (k : Int) := by omega
          have z1 : (k : Int) < (L.length : Int) := by omega
          have z2 : decide ((k : Int) < (L.length : Int)) = true := decide_eq_true z1
          have z2' : decide (k < L.length) = true := decide_eq_true hlt
          have hmem := tg_mem L k hlt
          have hrm := flat_room opN opN_len L k hlt
          have hln := sFoldO_len ((L.take k).flatMap opN) (l)
          have hl0 := HR0.out
          have hsn := flat_snoc opN L k hlt
          have hbw := HBW.out
          have HIX := Lib.hid (fun W (hW : Ext wr W) => HIH.out (tg L k) hmem _ _ _ T W (sFoldO_ris (HRI.out)) (own_kept HFk.out hW (fun _ _ h => h)) (TmR.ext ⟨xa, xc, rfl, hkid⟩ hW) HTb.out (by have := hW.size; have := HUk.out.size; omega) (by have := HR0.out; omega))
          dsimp only [tV] at HIX
          rw [← sFoldO_append, ← hsn] at HIX
          obtain ⟨x, hx⟩ : ∃ x, tg L k = x := ⟨_, rfl⟩
          rw [hx] at q0 q1 q2 HIX
          rw [← Nat.add_assoc] at q1 q2
          have hal : Ext wr (wr.alloc (.cells #[.string x.name, .string x.sort, .slice xa x.kids.length xc] 25)) := (Upd.refl _ wr).alloc _
          have HAL := Lib.hid hal
          have e0 := cellRow (alloc0 wr (.cells #[.string x.name, .string x.sort, .slice xa x.kids.length xc] 25)) 0 (.string x.name) rfl
          have e1 := cellRow (alloc0 wr (.cells #[.string x.name, .string x.sort, .slice xa x.kids.length xc] 25)) 1 (.string x.sort) rfl
          have e2 := cellRow (alloc0 wr (.cells #[.string x.name, .string x.sort, .slice xa x.kids.length xc] 25)) 2 (.slice xa x.kids.length xc) rfl
          clear hmem hrm hln hl0 hsn hx hat hkid hal hbw
          go_wp2_with fail
          refine (HIX.out _ HAL.out).mono ?_
          rintro e w8 ⟨r, rfl, hr, hu8, hb8⟩
          have HU8 : Hid (Upd (fun j => (Value.slice va l.length vc).ownBlock = some j) w w8) := Lib.hid ((HUk.out.ext HAL.out).trans' hu8 (fun j hj e => by rcases HBk.out j e with h | h; exact h; omega))
          have HB8 : Hid (∀ j, r.ownBlock = some j → (Value.slice va l.length vc).ownBlock = some j ∨ w.heap.size ≤ j) := Lib.hid (fun j hj => by
            rcases hb8 j hj with h | h
            · exact HBk.out j h
            · have h1 := HAL.out.size; have h2 := HUk.out.size; exact .inr (by omega))
          have HFr := Lib.hid hr
          obtain ⟨ra, rc, hrv⟩ := own_shape hr
          subst hrv
          clear hr hu8 hb8 q0 q1 q2 e0 e1 e2 HIX
          go_wp2_with fail
          go_roundg (L.length - (k + 1))
          case measure => omega
          case rel => exact ⟨k + 1, by go_num, rfl, by omega, HFr, HU8, HB8⟩
        · obtain rfl : k = L.length := by omega
          have z2 : decide ((L.length : Int) < (L.length : Int)) = false := decide_eq_false (by omega)
          have HFL := HFk.out
          rw [List.take_length] at HFL
          have HFQ := Lib.hid HFL
          clear HFL
          go_wp2_with fail
          go_ret
          rw [HOPN.out]
          refine ⟨_, rfl, ?_, HUk.out, HBk.out⟩
          have h9 := HFk.out
          rw [List.take_length] at h9
          have e9 : L.take L.length = L := List.take_length
          simp only [e9]
          exact h9
    · have hmd : decide (nm ∈ l) = false := decide_eq_false hm
      rw [hmd] at HBS
      have HOPN : Hid (sFoldO l (opN (.mk nm ⟨#[]⟩ L)) = sFoldO (sIns l nm) (L.flatMap opN)) := Lib.hid (by rw [opN_mk, if_pos (show (⟨#[]⟩ : By) = nul from rfl), sFoldO_append]; rfl)
      have HSI : Hid (sIns l nm = l.take (lowF l nm) ++ nm :: l.drop (lowF l nm)) := Lib.hid (by unfold sIns; rw [if_neg hm])
      have HSL : Hid ((sIns l nm).length = l.length + 1) := Lib.hid (by rw [HSI.out]; have : lowF l nm ≤ l.length := List.findIdx_le_length; simp; omega)
      have HRI2 := Lib.hid (sIns_ris (s := nm) HRI.out)
      have HLW : Hid (lowF l nm ≤ l.length) := Lib.hid List.findIdx_le_length
      clear hmd hm
      go_enter Tryz.func51, Tryz.ntmps51
      go_wp2_with fail
      refine (HBS.out _ HZ.out).mono ?_
      rintro e w3 ⟨rfl, hw3⟩
      have HE3 := Lib.hid (HZ.out.trans hw3)
      have HB3 := Lib.hid (hw3.heap HB.out (fun h => h))
      have c0' := cellRow HB3.out 0 (.string nm) rfl
      have HA4 : Hid (Ext w3 (w3.alloc (.cells #[.string nm] 9))) := Lib.hid ((Upd.refl (fun _ => False) w3).alloc _)
      have HF4 := Lib.hid (own_kept HOW.out (HE3.out.trans HA4.out) (fun _ _ h => h))
      have HIN := Lib.hid (ins_x l nm (lowF l nm) _ base w3.heap.size 1 _ HF4.out HLW.out (alloc0 w3 (.cells #[.string nm] 9)) (fun e => by have h1 := own_lt HOW.out _ e; have h2 := HE3.out.size; omega) (by have := HR0.out; omega) (by have h1 := HBW.out; have h2 := HE3.out.size; have h3 := HA4.out.size; omega))
      generalize lowF l nm = I at *
      clear hw3 c0 c1 c2
      go_wp2_with fail
      refine HIN.out.mono ?_
      rintro e w4 ⟨v4, rfl, hO4, hu4, hb4⟩
      rw [← HSI.out, ← HSL.out] at hO4
      have HF5 := Lib.hid hO4
      have HU5 : Hid (Upd (fun j => (Value.slice va l.length vc).ownBlock = some j) w w4) := Lib.hid (((HE3.out.trans HA4.out).mono (fun _ _ x => x.elim)).trans hu4)
      have HK5 : Hid (∀ j, v4.ownBlock = some j → (Value.slice va l.length vc).ownBlock = some j ∨ w.heap.size ≤ j) := Lib.hid (fun j h => (hb4 j h).imp id (fun e => by have h2 := HE3.out.size; have h3 := HA4.out.size; omega))
      have HB5 := Lib.hid (hu4.heap (HA4.out.heap HB3.out (fun h => h)) (fun e => by have h1 := own_lt HOW.out _ e; omega))
      have c2' := cellRow HB5.out 2 (.slice a L.length cap) rfl
      obtain ⟨a4, c4, hv4⟩ := own_shape hO4
      subst hv4
      clear hO4 hu4 hb4 c0'
      go_wp2_with fail
      go_loopg [1, 30] L.length (fun gk lv iv wr => ∃ k : Nat, iv = .int .i64 (k : Int) ∧ gk = L.length - k ∧ k ≤ L.length ∧ Hid (wr.ownsRow base 9 1 lv (sFoldO (sIns l nm) ((L.take k).flatMap opN)).length ((sFoldO (sIns l nm) ((L.take k).flatMap opN)).map Value.string)) ∧ Hid (Upd (fun j => (Value.slice va l.length vc).ownBlock = some j) w wr) ∧ Hid (∀ j, lv.ownBlock = some j → (Value.slice va l.length vc).ownBlock = some j ∨ w.heap.size ≤ j))
      case atStart => exact ⟨0, rfl, rfl, Nat.zero_le _, HF5, HU5, HK5⟩
      case round =>
        obtain ⟨k, rfl, rfl, hk, HFk, HUk, HBk⟩ := hrel
        obtain ⟨fa, fc, hlv⟩ := own_shape HFk.out
        subst hlv
        by_cases hlt : k < L.length
        · obtain ⟨g, off, rfl, _, hat⟩ := (HTL.out.kept HUk.out (fun j hj e => by have h1 := HTb.out j hj; have h2 := (HOW.out.lt j e).1; omega)).at_ (by omega)
          obtain ⟨xa, xc, q0, q1, q2, hkid⟩ := hat k hlt
          have z0 : (0 : Int) ≤ (k : Int) := by omega
          have z1 : (k : Int) < (L.length : Int) := by omega
          have z2 : decide ((k : Int) < (L.length : Int)) = true := decide_eq_true z1
          have z2' : decide (k < L.length) = true := decide_eq_true hlt
          have hmem := tg_mem L k hlt
          have hrm := flat_room opN opN_len L k hlt
          have hln := sFoldO_len ((L.take k).flatMap opN) (sIns l nm)
          have hl0 := HSL.out
          have hsn := flat_snoc opN L k hlt
          have hbw := HBW.out
          have HIX := Lib.hid (fun W (hW : Ext wr W) => HIH.out (tg L k) hmem _ _ _ T W (sFoldO_ris (HRI2.out)) (own_kept HFk.out hW (fun _ _ h => h)) (TmR.ext ⟨xa, xc, rfl, hkid⟩ hW) HTb.out (by have := hW.size; have := HUk.out.size; omega) (by have := HR0.out; omega))
          dsimp only [tV] at HIX
          rw [← sFoldO_append, ← hsn] at HIX
          obtain ⟨x, hx⟩ : ∃ x, tg L k = x := ⟨_, rfl⟩
          rw [hx] at q0 q1 q2 HIX
          rw [← Nat.add_assoc] at q1 q2
          have hal : Ext wr (wr.alloc (.cells #[.string x.name, .string x.sort, .slice xa x.kids.length xc] 25)) := (Upd.refl _ wr).alloc _
          have HAL := Lib.hid hal
          have e0 := cellRow (alloc0 wr (.cells #[.string x.name, .string x.sort, .slice xa x.kids.length xc] 25)) 0 (.string x.name) rfl
          have e1 := cellRow (alloc0 wr (.cells #[.string x.name, .string x.sort, .slice xa x.kids.length xc] 25)) 1 (.string x.sort) rfl
          have e2 := cellRow (alloc0 wr (.cells #[.string x.name, .string x.sort, .slice xa x.kids.length xc] 25)) 2 (.slice xa x.kids.length xc) rfl
          clear hmem hrm hln hl0 hsn hx hat hkid hal hbw
          go_wp2_with fail
          refine (HIX.out _ HAL.out).mono ?_
          rintro e w8 ⟨r, rfl, hr, hu8, hb8⟩
          have HU8 : Hid (Upd (fun j => (Value.slice va l.length vc).ownBlock = some j) w w8) := Lib.hid ((HUk.out.ext HAL.out).trans' hu8 (fun j hj e => by rcases HBk.out j e with h | h; exact h; omega))
          have HB8 : Hid (∀ j, r.ownBlock = some j → (Value.slice va l.length vc).ownBlock = some j ∨ w.heap.size ≤ j) := Lib.hid (fun j hj => by
            rcases hb8 j hj with h | h
            · exact HBk.out j h
            · have h1 := HAL.out.size; have h2 := HUk.out.size; exact .inr (by omega))
          have HFr := Lib.hid hr
          obtain ⟨ra, rc, hrv⟩ := own_shape hr
          subst hrv
          clear hr hu8 hb8 q0 q1 q2 e0 e1 e2 HIX
          go_wp2_with fail
          go_roundg (L.length - (k + 1))
          case measure => omega
          case rel => exact ⟨k + 1, by go_num, rfl, by omega, HFr, HU8, HB8⟩
        · obtain rfl : k = L.length := by omega
          have z2 : decide ((L.length : Int) < (L.length : Int)) = false := decide_eq_false (by omega)
          have HFL := HFk.out
          rw [List.take_length] at HFL
          have HFQ := Lib.hid HFL
          clear HFL
          go_wp2_with fail
          go_ret
          rw [HOPN.out]
          refine ⟨_, rfl, ?_, HUk.out, HBk.out⟩
          have h9 := HFk.out
          rw [List.take_length] at h9
          have e9 : L.take L.length = L := List.take_length
          simp only [e9]
          exact h9
  · obtain ⟨e1, e2, e3, e4⟩ := nonempty_t so (Nat.pos_of_ne_zero hs0)
    have HOPN : Hid (sFoldO l (opN (.mk nm so L)) = sFoldO l (L.flatMap opN)) := Lib.hid (by rw [opN_mk, if_neg (fun e => hs0 (by rw [e]; rfl))]; rfl)
    have HF3 := Lib.hid (own_kept HOW.out HZ.out (fun _ _ h => h))
    have HU3 : Hid (Upd (fun j => (Value.slice va l.length vc).ownBlock = some j) w (w.alloc (.cells #[.string nm, .string so, .slice a L.length cap] 25))) := Lib.hid (HZ.out.mono (fun _ _ x => x.elim))
    have HK3 : Hid (∀ j, (Value.slice va l.length vc).ownBlock = some j → (Value.slice va l.length vc).ownBlock = some j ∨ w.heap.size ≤ j) := Lib.hid (fun j h => .inl h)
    go_enter Tryz.func51, Tryz.ntmps51
    go_wp2_with fail
    clear c0 c1 c2
    go_loopg [1, 30] L.length (fun gk lv iv wr => ∃ k : Nat, iv = .int .i64 (k : Int) ∧ gk = L.length - k ∧ k ≤ L.length ∧ Hid (wr.ownsRow base 9 1 lv (sFoldO (l) ((L.take k).flatMap opN)).length ((sFoldO (l) ((L.take k).flatMap opN)).map Value.string)) ∧ Hid (Upd (fun j => (Value.slice va l.length vc).ownBlock = some j) w wr) ∧ Hid (∀ j, lv.ownBlock = some j → (Value.slice va l.length vc).ownBlock = some j ∨ w.heap.size ≤ j))
    case atStart => exact ⟨0, rfl, rfl, Nat.zero_le _, HF3, HU3, HK3⟩
    case round =>
      obtain ⟨k, rfl, rfl, hk, HFk, HUk, HBk⟩ := hrel
      obtain ⟨fa, fc, hlv⟩ := own_shape HFk.out
      subst hlv
      by_cases hlt : k < L.length
      · obtain ⟨g, off, rfl, _, hat⟩ := (HTL.out.kept HUk.out (fun j hj e => by have h1 := HTb.out j hj; have h2 := (HOW.out.lt j e).1; omega)).at_ (by omega)
        obtain ⟨xa, xc, q0, q1, q2, hkid⟩ := hat k hlt
        have z0 : (0 : Int) ≤ (k : Int) := by omega
        have z1 : (k : Int) < (L.length : Int) := by omega
        have z2 : decide ((k : Int) < (L.length : Int)) = true := decide_eq_true z1
        have z2' : decide (k < L.length) = true := decide_eq_true hlt
        have hmem := tg_mem L k hlt
        have hrm := flat_room opN opN_len L k hlt
        have hln := sFoldO_len ((L.take k).flatMap opN) (l)
        have hl0 := HR0.out
        have hsn := flat_snoc opN L k hlt
        have hbw := HBW.out
        have HIX := Lib.hid (fun W (hW : Ext wr W) => HIH.out (tg L k) hmem _ _ _ T W (sFoldO_ris (HRI.out)) (own_kept HFk.out hW (fun _ _ h => h)) (TmR.ext ⟨xa, xc, rfl, hkid⟩ hW) HTb.out (by have := hW.size; have := HUk.out.size; omega) (by have := HR0.out; omega))
        dsimp only [tV] at HIX
        rw [← sFoldO_append, ← hsn] at HIX
        obtain ⟨x, hx⟩ : ∃ x, tg L k = x := ⟨_, rfl⟩
        rw [hx] at q0 q1 q2 HIX
        rw [← Nat.add_assoc] at q1 q2
        have hal : Ext wr (wr.alloc (.cells #[.string x.name, .string x.sort, .slice xa x.kids.length xc] 25)) := (Upd.refl _ wr).alloc _
        have HAL := Lib.hid hal
        have e0 := cellRow (alloc0 wr (.cells #[.string x.name, .string x.sort, .slice xa x.kids.length xc] 25)) 0 (.string x.name) rfl
        have e1 := cellRow (alloc0 wr (.cells #[.string x.name, .string x.sort, .slice xa x.kids.length xc] 25)) 1 (.string x.sort) rfl
        have e2 := cellRow (alloc0 wr (.cells #[.string x.name, .string x.sort, .slice xa x.kids.length xc] 25)) 2 (.slice xa x.kids.length xc) rfl
        clear hmem hrm hln hl0 hsn hx hat hkid hal hbw
        go_wp2_with fail
        refine (HIX.out _ HAL.out).mono ?_
        rintro e w8 ⟨r, rfl, hr, hu8, hb8⟩
        have HU8 : Hid (Upd (fun j => (Value.slice va l.length vc).ownBlock = some j) w w8) := Lib.hid ((HUk.out.ext HAL.out).trans' hu8 (fun j hj e => by rcases HBk.out j e with h | h; exact h; omega))
        have HB8 : Hid (∀ j, r.ownBlock = some j → (Value.slice va l.length vc).ownBlock = some j ∨ w.heap.size ≤ j) := Lib.hid (fun j hj => by
          rcases hb8 j hj with h | h
          · exact HBk.out j h
          · have h1 := HAL.out.size; have h2 := HUk.out.size; exact .inr (by omega))
        have HFr := Lib.hid hr
        obtain ⟨ra, rc, hrv⟩ := own_shape hr
        subst hrv
        clear hr hu8 hb8 q0 q1 q2 e0 e1 e2 HIX
        go_wp2_with fail
        go_roundg (L.length - (k + 1))
        case measure => omega
        case rel => exact ⟨k + 1, by go_num, rfl, by omega, HFr, HU8, HB8⟩
      · obtain rfl : k = L.length := by omega
        have z2 : decide ((L.length : Int) < (L.length : Int)) = false := decide_eq_false (by omega)
        have HFL := HFk.out
        rw [List.take_length] at HFL
        have HFQ := Lib.hid HFL
        clear HFL
        go_wp2_with fail
        go_ret
        rw [HOPN.out]
        refine ⟨_, rfl, ?_, HUk.out, HBk.out⟩
        have h9 := HFk.out
        rw [List.take_length] at h9
        have e9 : L.take L.length = L := List.take_length
        simp only [e9]
        exact h9

end Go.Proofs.YtiimccogojkldaaGreatDoor

/- precedence and formed. -/
namespace Go.Proofs.YtiimccogojkldaaGreatDoor
open Go.RowKit Go.Hw Go
set_option linter.unusedVariables false
set_option linter.unusedSimpArgs false

open Tm
theorem con_x (l : List By) (x : By) (v : Value) (S : Nat → Prop) (w : World) (hR : StR S w v l) (hl : l.length ≤ 1000000) :
    Calls Tryz.prog 73 #[v, .string x] w fun e w' => e = .returned (.bool (decide (x ∈ l))) ∧ Ext w w' := by
  obtain ⟨a, cap, rfl⟩ := SlR.shape hR
  by_cases h0 : 0 < l.length
  · obtain ⟨g, off, hga, _, hat⟩ := SlR.one_at (d := nul) hR h0
    subst hga
    refine (Tryz.slices_Contains_string g off l.length cap l x w (Nat.le_refl _) (by omega) (fun j hj => hat j hj)).mono ?_
    rintro e w' ⟨rfl, rfl⟩
    refine ⟨?_, Upd.refl _ _⟩
    rw [List.take_length]
    suffices h : Lib.containsS l x = decide (x ∈ l) by rw [h]
    rw [Bool.eq_iff_iff, decide_eq_true_eq, Lib.containsS_iff]
  · have hl0 : l = [] := List.eq_nil_of_length_eq_zero (by omega)
    subst hl0
    refine (Tryz.slices_Contains_string_empty a cap x w).mono ?_
    rintro e w' ⟨rfl, rfl⟩
    exact ⟨rfl, Upd.refl _ _⟩
set_option maxRecDepth 100000 in
set_option maxHeartbeats 2000000 in
theorem prec_x (l : List By) (v : Value) (S : Nat → Prop) (w : World) (hR : StR S w v l) (htab : AscT w) (hbl : l.length ≤ 1000000) : Calls Tryz.prog 39 #[v] w fun e w' => e = .returned (.bool (precP nmB l)) ∧ Ext w w' := by
  have HR := Lib.hid hR
  have HTAB := Lib.hid htab
  obtain ⟨a, cap, rfl⟩ := SlR.shape hR
  clear hR htab
  by_cases hlen : 100 < l.length
  · have HV : Hid (precP nmB l = false) := Lib.hid (by unfold precP; rw [decide_eq_false (by omega)]; rfl)
    have z1 : (100 : Int) < (l.length : Int) := by omega
    go_enter Tryz.func39, Tryz.ntmps39
    go_wp2_with fail
    go_ret
    rw [HV.out]
    exact ⟨rfl, Upd.refl _ _⟩
  · have z1 : ¬ (100 : Int) < (l.length : Int) := by omega
    go_enter Tryz.func39, Tryz.ntmps39
    go_wp2_with fail
    clear z1
    go_loopg [10] l.length (fun gk iv wr => ∃ k : Nat, iv = .int .i64 (k : Int) ∧ gk = l.length - k ∧ k ≤ l.length ∧ Hid (∀ j, j < k → nmB (bg l j) = true ∧ bg l j ∉ l.take j) ∧ Hid (Ext w wr))
    case atStart => exact ⟨0, rfl, rfl, Nat.zero_le _, Lib.hid (fun j h => absurd h (Nat.not_lt_zero _)), Lib.hid (Upd.refl _ _)⟩
    case round =>
      obtain ⟨k, rfl, rfl, hk, HC, HE⟩ := hrel
      by_cases hlt : k < l.length
      · have HRk := Lib.hid ((StR.ext HR.out HE.out).to (k := k) (by omega))
        have hcap : k ≤ cap := Nat.le_trans hk (SlR.le_cap HR.out rfl)
        obtain ⟨g, off, rfl, _, hat⟩ := StR.at_ (StR.ext HR.out HE.out) (by omega)
        have q0 := hat k hlt
        have z0 : (0 : Int) ≤ (k : Int) := by omega
        have z1 : (k : Int) < (l.length : Int) := by omega
        have z2 : decide ((k : Int) < (l.length : Int)) = true := decide_eq_true z1
        have z2' : decide (k < l.length) = true := decide_eq_true hlt
        have z3 : (k : Int) ≤ (l.length : Int) := by omega
        clear hat
        obtain ⟨x, hx⟩ : ∃ x, bg l k = x := ⟨_, rfl⟩
        have HX := Lib.hid hx
        rw [hx] at q0
        clear hx
        have hl100 : l.length ≤ 100 := by omega
        have HNA := Lib.hid (isName_x x wr (asc_ext HTAB.out HE.out))
        have HCO := Lib.hid (fun W (hW : Ext wr W) => con_x (l.take k) x _ S W (StR.ext HRk.out hW) (by rw [List.length_take]; omega))
        have htl : (l.take k).length = k := by rw [List.length_take]; omega
        have HST : Hid (nmB x = false ∨ x ∈ l.take k → precP nmB l = false) := Lib.hid (fun h => precP_stop hlt (by rw [show l.getD k nul = x from HX.out]; exact h))
        cases hnb : nmB x
        · rw [hnb] at HNA
          have HV := Lib.hid (HST.out (.inl hnb))
          clear hnb htl
          go_wp2_with fail
          refine HNA.out.mono ?_
          rintro e w4 ⟨rfl, hw4⟩
          have H4 := Lib.hid (HE.out.trans hw4)
          clear hw4
          go_wp2_with fail
          go_ret
          rw [HV.out]
          exact ⟨rfl, H4.out⟩
        · rw [hnb] at HNA
          have HNB := Lib.hid hnb
          clear hnb
          have HCX := HCO
          clear htl HCO
          by_cases hm : x ∈ l.take k
          · have hmd : decide (x ∈ l.take k) = true := decide_eq_true hm
            rw [hmd] at HCX
            have HV := Lib.hid (HST.out (.inr hm))
            clear hmd hm
            go_wp2_with fail
            refine HNA.out.mono ?_
            rintro e w4 ⟨rfl, hw4⟩
            have H4 := Lib.hid (HE.out.trans hw4)
            have HW4 := Lib.hid hw4
            clear hw4
            go_wp2_with fail
            refine (HCX.out _ HW4.out).mono ?_
            rintro e w5 ⟨rfl, hw5⟩
            have H5 := Lib.hid (H4.out.trans hw5)
            clear hw5
            go_wp2_with fail
            go_ret
            rw [HV.out]
            exact ⟨rfl, H5.out⟩
          · have hmd : decide (x ∈ l.take k) = false := decide_eq_false hm
            rw [hmd] at HCX
            have HN : Hid (∀ j, j < k + 1 → nmB (bg l j) = true ∧ bg l j ∉ l.take j) := Lib.hid (fun j hj => by
              rcases Nat.lt_succ_iff_lt_or_eq.1 hj with h5 | h5
              · exact HC.out j h5
              · rw [h5, HX.out]; exact ⟨HNB.out, hm⟩)
            clear hmd hm
            go_wp2_with fail
            refine HNA.out.mono ?_
            rintro e w4 ⟨rfl, hw4⟩
            have H4 := Lib.hid (HE.out.trans hw4)
            have HW4 := Lib.hid hw4
            clear hw4
            go_wp2_with fail
            refine (HCX.out _ HW4.out).mono ?_
            rintro e w5 ⟨rfl, hw5⟩
            have H5 := Lib.hid (H4.out.trans hw5)
            clear hw5 q0
            go_wp2_with fail
            go_roundg (l.length - (k + 1))
            case measure => omega
            case rel => exact ⟨k + 1, by go_num, rfl, by omega, HN, H5⟩
      · obtain rfl : k = l.length := by omega
        have z2 : decide ((l.length : Int) < (l.length : Int)) = false := decide_eq_false (by omega)
        have HV : Hid (precP nmB l = true) := Lib.hid (by
          unfold precP
          rw [decide_eq_true (by omega), Bool.true_and, List.all_eq_true]
          intro i hi
          have h9 := HC.out i (List.mem_range.1 hi)
          rw [Bool.and_eq_true, Bool.not_eq_true', decide_eq_false_iff_not]
          exact h9)
        go_wp2_with fail
        go_ret
        rw [HV.out]
        exact ⟨rfl, HE.out⟩
set_option maxRecDepth 100000 in
set_option maxHeartbeats 2000000 in
theorem idxT74_x (p : Tm → Bool) (L : List Tm) (v : Value) (S : Nat → Prop) (w : World) (hR : TlR S w L v) (hl : L.length ≤ 1000000)
    (hf : ∀ t ∈ L, ∀ u W, Ext w W → TmR S W t (tV t u) → Calls Tryz.prog 74 #[tV t u] W fun e W' => e = .returned (.bool (p t)) ∧ Ext W W') :
    Calls Tryz.prog 54 #[v, .func (.func 74) #[] #[]] w fun e w' => ∃ r : Int, e = .returned (.int .i64 r) ∧ decide (0 ≤ r) = L.any p ∧ Ext w w' := by
  obtain ⟨a, cap, rfl⟩ := hR.shape
  have HR := Lib.hid hR
  have HF := Lib.hid hf
  clear hR hf
  go_enter Tryz.func54, Tryz.ntmps54
  go_wp2_with fail
  go_loopg [8] L.length (fun gk iv wr => ∃ k : Nat, iv = .int .i64 (k : Int) ∧ gk = L.length - k ∧ k ≤ L.length ∧ Hid (Ext w wr) ∧ Hid ((L.take k).any p = false))
  case atStart => exact ⟨0, rfl, rfl, Nat.zero_le _, Lib.hid (Upd.refl _ _), Lib.hid rfl⟩
  case round =>
    obtain ⟨k, rfl, rfl, hk, HE, HM⟩ := hrel
    by_cases hlt : k < L.length
    · obtain ⟨g, off, hga, _, hat⟩ := (HR.out.ext HE.out).at_ (by omega)
      subst hga
      obtain ⟨xa, xc, q0, q1, q2, hkid⟩ := hat k hlt
      rw [← Nat.add_assoc] at q1 q2
      have z0 : (0 : Int) ≤ (k : Int) := by omega
      have z1 : (k : Int) < (L.length : Int) := by omega
      have z2 : decide ((k : Int) < (L.length : Int)) = true := decide_eq_true z1
      have z2' : decide (k < L.length) = true := decide_eq_true hlt
      have hmem := tg_in hlt
      have HFX := Lib.hid (HF.out _ hmem _ wr HE.out ⟨xa, xc, rfl, hkid⟩)
      have HN : Hid (p (tg L k) = false → (L.take (k + 1)).any p = false) := Lib.hid (fun h => by
        rw [tk_snoc L k hlt, List.any_append, HM.out, List.any_cons, List.any_nil, h]
        rfl)
      have HY : Hid (p (tg L k) = true → L.any p = true) := Lib.hid (fun h => List.any_eq_true.2 ⟨_, hmem, h⟩)
      obtain ⟨x, hx⟩ : ∃ x, tg L k = x := ⟨_, rfl⟩
      rw [hx] at q0 q1 q2 HFX HN HY
      dsimp only [tV] at HFX
      obtain ⟨b, hb⟩ : ∃ b, p x = b := ⟨_, rfl⟩
      rw [hb] at HFX HN HY
      clear hat hmem hx hb HM hkid
      go_wp2_with fail
      refine HFX.out.mono ?_
      rintro e w4 ⟨rfl, hw4⟩
      have H4 := Lib.hid (HE.out.trans hw4)
      clear hw4 q0 q1 q2 HFX HE
      cases b
      · have HN2 := Lib.hid (HN.out rfl)
        clear HN HY
        go_wp2_with fail
        go_roundg (L.length - (k + 1))
        case measure => omega
        case rel => exact ⟨k + 1, by go_num, rfl, by omega, H4, HN2⟩
      · have HY2 := Lib.hid (HY.out rfl)
        clear HN HY
        go_wp2_with fail
        go_ret
        exact ⟨_, rfl, by rw [HY2.out]; exact decide_eq_true z0, H4.out⟩
    · obtain rfl : k = L.length := by omega
      have z2 : decide ((L.length : Int) < (L.length : Int)) = false := decide_eq_false (by omega)
      have HM2 := HM.out
      rw [List.take_length] at HM2
      have HM3 := Lib.hid HM2
      clear HM2
      go_wp2_with fail
      go_ret
      exact ⟨_, rfl, by rw [HM3.out]; rfl, HE.out⟩
set_option maxRecDepth 100000 in
set_option maxHeartbeats 2000000 in
theorem conT74_x (p : Tm → Bool) (L : List Tm) (v : Value) (S : Nat → Prop) (w : World) (hR : TlR S w L v) (hl : L.length ≤ 1000000)
    (hf : ∀ t ∈ L, ∀ u W, Ext w W → TmR S W t (tV t u) → Calls Tryz.prog 74 #[tV t u] W fun e W' => e = .returned (.bool (p t)) ∧ Ext W W') :
    Calls Tryz.prog 22 #[v, .func (.func 74) #[] #[]] w fun e w' => e = .returned (.bool (L.any p)) ∧ Ext w w' := by
  have HI := Lib.hid (idxT74_x p L v S w hR hl hf)
  clear hR hf
  go_enter Tryz.func22, Tryz.ntmps22
  go_wp2_with fail
  refine HI.out.mono ?_
  rintro e w4 ⟨r, rfl, hr, hw4⟩
  have H4 := Lib.hid hw4
  have HRR := Lib.hid hr
  clear hw4 hr
  go_wp2_with fail
  go_ret
  rw [← HRR.out]
  exact ⟨rfl, H4.out⟩
set_option maxRecDepth 100000 in
set_option maxHeartbeats 2000000 in
theorem form1_x (t : Tm) (v : Value) (w : World) (htab : AscT w) (hR : TmR (fun k => k < w.heap.size) w t v) (hsz : (t.size : Int) ≤ 1000000000000) : Calls Tryz.prog 74 #[v] w fun e w' => e = .returned (.bool (!wf nmB t)) ∧ Ext w w' := by
  have HR := Lib.hid hR
  obtain ⟨a, cap, rfl, hT⟩ := hR
  have hb := alloc0 w (.cells #[.string t.name, .string t.sort, .slice a t.kids.length cap] 25)
  have HZ := Lib.hid ((Upd.refl (fun _ => False) w).alloc (.cells #[.string t.name, .string t.sort, .slice a t.kids.length cap] 25))
  have HS := Lib.hid (fun W (hW : Ext w W) => Size_x t _ W (asc_ext htab hW) ((HR.out.ext hW).weaken (fun k hk => Nat.lt_of_lt_of_le hk hW.size)) hsz)
  dsimp only [tV] at HS ⊢
  have c0 := cellRow hb 0 (.string t.name) rfl
  have c1 := cellRow hb 1 (.string t.sort) rfl
  have c2 := cellRow hb 2 (.slice a t.kids.length cap) rfl
  have hpos := size_pos t
  have hz : decide (szF t = 0) = !wf nmB t := by
    unfold szF
    by_cases h : wf nmB t = true
    · rw [if_pos h, h, decide_eq_false (by omega)]; rfl
    · rw [if_neg h, Bool.eq_false_iff.2 h]; rfl
  have HV := Lib.hid hz
  obtain ⟨X, hX⟩ : ∃ X, szF t = X := ⟨_, rfl⟩
  rw [hX] at HS HV
  clear hz hX hT hb
  go_enter Tryz.func74, Tryz.ntmps74
  go_wp2_with fail
  refine (HS.out _ HZ.out).mono ?_
  rintro e w4 ⟨rfl, hw4⟩
  have H4 := Lib.hid (HZ.out.ext hw4)
  clear hw4 c0 c1 c2
  by_cases h0 : X = 0
  · have t0 : ((X : Int) == 0) = true := by simp [h0]
    have t1 : (X : Int) = 0 := by omega
    have HV2 : Hid ((!wf nmB t) = true) := Lib.hid (by rw [← HV.out]; exact decide_eq_true h0)
    clear h0
    go_wp2_with fail
    go_ret
    rw [HV2.out]
    exact ⟨rfl, H4.out⟩
  · have t0 : ((X : Int) == 0) = false := by simp; omega
    have t1 : ¬ (X : Int) = 0 := by omega
    have HV2 : Hid ((!wf nmB t) = false) := Lib.hid (by rw [← HV.out]; exact decide_eq_false h0)
    clear h0
    go_wp2_with fail
    go_ret
    rw [HV2.out]
    exact ⟨rfl, H4.out⟩
set_option maxRecDepth 100000 in
set_option maxHeartbeats 2000000 in
theorem forms_x (L : List Tm) (v : Value) (w : World) (htab : AscT w) (hR : TlR (fun k => k < w.heap.size) w L v) (hl : L.length ≤ 1000000) (hsz : ∀ t ∈ L, (t.size : Int) ≤ 1000000000000) : Calls Tryz.prog 40 #[v] w fun e w' => e = .returned (.bool (L.all (wf nmB))) ∧ Ext w w' := by
  obtain ⟨a, cap, rfl⟩ := hR.shape
  have HC := Lib.hid (conT74_x (fun t => !wf nmB t) L _ _ w hR hl (fun t ht u W hW hT => form1_x t _ W (asc_ext htab hW) (hT.weaken (fun k hk => Nat.lt_of_lt_of_le hk hW.size)) (hsz t ht)))
  have HV : Hid ((!(L.any fun t => !wf nmB t)) = L.all (wf nmB)) := Lib.hid (by rw [List.not_any_eq_all_not]; congr 1; funext t; simp)
  clear hR hsz htab
  generalize (L.any fun t => !wf nmB t) = B at *
  go_enter Tryz.func40, Tryz.ntmps40
  go_wp2_with fail
  refine HC.out.mono ?_
  rintro e w4 ⟨rfl, hw4⟩
  have H4 := Lib.hid hw4
  clear hw4
  go_wp2_with fail
  go_ret
  rw [← HV.out]
  exact ⟨rfl, H4.out⟩

end Go.Proofs.YtiimccogojkldaaGreatDoor

/- knows. -/
namespace Go.Proofs.YtiimccogojkldaaGreatDoor
open Go.RowKit Go.Hw Go
set_option linter.unusedVariables false
set_option linter.unusedSimpArgs false

open Tm
theorem knows_mem (ops : List By) (t : Tm) : (∀ s ∈ sFoldO [] (opN t), s ∈ ops) ↔ knowsP ops t = true := by
  rw [knowsP_iff]
  constructor
  · intro h s hs
    exact h s (mem_sFoldO.2 (.inr hs))
  · intro h s hs
    rcases mem_sFoldO.1 hs with h1 | h1
    · cases h1
    · exact h s h1
set_option maxRecDepth 100000 in
set_option maxHeartbeats 2000000 in
theorem know_x (ops : List By) (L : List Tm) (ov v : Value) (S : Nat → Prop) (w : World) (hO : StR S w ov ops) (hR : TlR S w L v) (hS : ∀ k, S k → k < w.heap.size) (hol : ops.length ≤ 1000000) (hl : L.length ≤ 1000000) (hsz : ∀ t ∈ L, t.size ≤ 100000) :
    Calls Tryz.prog 41 #[ov, v] w fun e w' => e = .returned (.bool (L.all (knowsP ops))) ∧ Ext w w' := by
  obtain ⟨a, cap, rfl⟩ := hR.shape
  obtain ⟨oa, oc, rfl⟩ := SlR.shape hO
  have HR := Lib.hid hR
  have HO := Lib.hid hO
  have HSS := Lib.hid hS
  have HSZ := Lib.hid hsz
  clear hR hO hS hsz
  go_enter Tryz.func41, Tryz.ntmps41
  go_wp2_with fail
  go_loopg [11] L.length (fun gk iv wr => ∃ k : Nat, iv = .int .i64 (k : Int) ∧ gk = L.length - k ∧ k ≤ L.length ∧ Hid (Ext w wr) ∧ Hid ((L.take k).all (knowsP ops) = true))
  case atStart => exact ⟨0, rfl, rfl, Nat.zero_le _, Lib.hid (Upd.refl _ _), Lib.hid rfl⟩
  case round =>
    obtain ⟨k, rfl, rfl, hk, HE, HM⟩ := hrel
    by_cases hlt : k < L.length
    · obtain ⟨g, off, hga, _, hat⟩ := (HR.out.ext HE.out).at_ (by omega)
      subst hga
      obtain ⟨xa, xc, q0, q1, q2, hkid⟩ := hat k hlt
      rw [← Nat.add_assoc] at q1 q2
      have z0 : (0 : Int) ≤ (k : Int) := by omega
      have z1 : (k : Int) < (L.length : Int) := by omega
      have z2 : decide ((k : Int) < (L.length : Int)) = true := decide_eq_true z1
      have z2' : decide (k < L.length) = true := decide_eq_true hlt
      have hmem := tg_in hlt
      have hxs := HSZ.out _ hmem
      have HOP := Lib.hid (fun W (hW : Ext wr W) => opers_x W.heap.size (tg L k) [] (.slice none 0 0) _ S W List.Pairwise.nil ⟨rfl, .inl ⟨rfl, rfl⟩⟩ (TmR.ext ⟨xa, xc, rfl, hkid⟩ hW) (fun j hj => by have h1 := HSS.out j hj; have h2 := HE.out.size; have h3 := hW.size; omega) (Nat.le_refl _) (by show 0 + _ ≤ _; omega))
      have HN : Hid (knowsP ops (tg L k) = true → (L.take (k + 1)).all (knowsP ops) = true) := Lib.hid (fun h => by
        rw [tk_snoc L k hlt, List.all_append, HM.out, List.all_cons, List.all_nil, h]
        rfl)
      have HY : Hid (knowsP ops (tg L k) = false → L.all (knowsP ops) = false) := Lib.hid (fun h => by
        rw [Bool.eq_false_iff]
        intro h2
        rw [List.all_eq_true] at h2
        rw [h2 _ hmem] at h
        cases h)
      have HKM := Lib.hid (knows_mem ops (tg L k))
      have hml := sFoldO_len (opN (tg L k)) []
      have hol2 := opN_len (tg L k)
      obtain ⟨x, hx⟩ : ∃ x, tg L k = x := ⟨_, rfl⟩
      rw [hx] at q0 q1 q2 HOP HN HY HKM hml hol2 hxs
      dsimp only [tV] at HOP
      have hM : (sFoldO [] (opN x)).length ≤ 100000 := by simp only [List.length_nil] at hml; omega
      obtain ⟨M, hMM⟩ : ∃ M, sFoldO [] (opN x) = M := ⟨_, rfl⟩
      rw [hMM] at HOP HKM hM
      have hal : Ext wr (wr.alloc (.cells #[.string x.name, .string x.sort, .slice xa x.kids.length xc] 25)) := (Upd.refl _ wr).alloc _
      have HAL := Lib.hid hal
      have e0 := cellRow (alloc0 wr (.cells #[.string x.name, .string x.sort, .slice xa x.kids.length xc] 25)) 0 (.string x.name) rfl
      have e1 := cellRow (alloc0 wr (.cells #[.string x.name, .string x.sort, .slice xa x.kids.length xc] 25)) 1 (.string x.sort) rfl
      have e2 := cellRow (alloc0 wr (.cells #[.string x.name, .string x.sort, .slice xa x.kids.length xc] 25)) 2 (.slice xa x.kids.length xc) rfl
      clear hat hmem hx hMM hml hol2 hkid hal hxs HM
      go_wp2_with fail
      refine (HOP.out _ HAL.out).mono ?_
      rintro e w4 ⟨r, rfl, hr, hu4, _⟩
      have HX4 : Hid (Ext wr w4) := Lib.hid (HAL.out.trans' hu4 (fun j hj e => by simp [Value.ownBlock] at e))
      have H4 := Lib.hid (HE.out.trans HX4.out)
      have HMR : Hid (StR (fun _ => True) w4 r M) := Lib.hid (own_str (S := fun _ => True) hr)
      obtain ⟨ra, rc, hrv⟩ := own_shape hr
      subst hrv
      clear hr hu4 q0 q1 q2 e0 e1 e2 HOP HAL
      go_wp2_with fail
      obtain ⟨wa, hwa⟩ : ∃ wa, wa = w4 := ⟨_, rfl⟩
      have HR0 : Hid (Ext wa w4) := Lib.hid (by rw [hwa]; exact Upd.refl _ _)
      rw [← hwa] at H4 HMR
      clear hwa
      go_loopg [18] M.length (fun gk jv wr => ∃ j : Nat, jv = .int .i64 (j : Int) ∧ gk = M.length - j ∧ j ≤ M.length ∧ Hid (∀ i, i < j → bg M i ∈ ops) ∧ Hid (Ext wa wr))
      case atStart => exact ⟨0, rfl, rfl, Nat.zero_le _, Lib.hid (fun i h => absurd h (Nat.not_lt_zero _)), HR0⟩
      case round =>
        clear HR0
        obtain ⟨j, rfl, rfl, hj, HC, HE2⟩ := hrel
        by_cases hltj : j < M.length
        · obtain ⟨g2, off2, hg2, _, hat2⟩ := StR.at_ (StR.ext HMR.out HE2.out) (by omega)
          subst hg2
          have p0 := hat2 j hltj
          have y0 : (0 : Int) ≤ (j : Int) := by omega
          have y1 : (j : Int) < (M.length : Int) := by omega
          have y2 : decide ((j : Int) < (M.length : Int)) = true := decide_eq_true y1
          have y2' : decide (j < M.length) = true := decide_eq_true hltj
          have hmj : bg M j ∈ M := by unfold bg; rw [List.getD_eq_getElem?_getD, List.getElem?_eq_getElem hltj]; exact List.getElem_mem hltj
          have HKN : Hid (bg M j ∉ ops → knowsP ops x = false) := Lib.hid (fun h => by
            rw [Bool.eq_false_iff]
            exact fun h2 => h (HKM.out.2 h2 _ hmj))
          obtain ⟨y, hy⟩ : ∃ y, bg M j = y := ⟨_, rfl⟩
          have HYY := Lib.hid hy
          rw [hy] at p0 HKN
          have HCX := Lib.hid (con_x ops y _ S wr (SlR.kept HO.out (H4.out.trans HE2.out) (fun _ _ h => h)) hol)
          clear hat2 hmj hy
          by_cases hm : y ∈ ops
          · have hmd : decide (y ∈ ops) = true := decide_eq_true hm
            rw [hmd] at HCX
            have HN2 : Hid (∀ i, i < j + 1 → bg M i ∈ ops) := Lib.hid (fun i hi => by
              rcases Nat.lt_succ_iff_lt_or_eq.1 hi with h5 | h5
              · exact HC.out i h5
              · rw [h5, HYY.out]; exact hm)
            clear hmd hm
            go_wp2_with fail
            refine HCX.out.mono ?_
            rintro e w5 ⟨rfl, hw5⟩
            have H5 := Lib.hid (HE2.out.trans hw5)
            clear hw5 p0
            go_wp2_with fail
            go_roundg (M.length - (j + 1))
            case measure => omega
            case rel => exact ⟨j + 1, by go_num, rfl, by omega, HN2, H5⟩
          · have hmd : decide (y ∈ ops) = false := decide_eq_false hm
            rw [hmd] at HCX
            have HV := Lib.hid (HY.out (HKN.out hm))
            clear hmd hm
            go_wp2_with fail
            refine HCX.out.mono ?_
            rintro e w5 ⟨rfl, hw5⟩
            have H5 := Lib.hid ((H4.out.trans HE2.out).trans hw5)
            clear hw5 p0
            go_wp2_with fail
            go_ret
            rw [HV.out]
            exact ⟨rfl, H5.out⟩
        · obtain rfl : j = M.length := by omega
          have y2 : decide ((M.length : Int) < (M.length : Int)) = false := decide_eq_false (by omega)
          have HKT : Hid (knowsP ops x = true) := Lib.hid (HKM.out.1 (fun s hs => by
            obtain ⟨i, hi, rfl⟩ := List.mem_iff_getElem.1 hs
            have := HC.out i hi
            unfold bg at this
            rwa [List.getD_eq_getElem?_getD, List.getElem?_eq_getElem hi] at this))
          have HN3 := Lib.hid (HN.out HKT.out)
          have H6 := Lib.hid (H4.out.trans HE2.out)
          go_wp2_with fail
          go_roundg (L.length - (k + 1))
          case measure => omega
          case rel => exact ⟨k + 1, by go_num, rfl, by omega, H6, HN3⟩
    · obtain rfl : k = L.length := by omega
      have z2 : decide ((L.length : Int) < (L.length : Int)) = false := decide_eq_false (by omega)
      have HM2 := HM.out
      rw [List.take_length] at HM2
      have HM3 := Lib.hid HM2
      clear HM2
      go_wp2_with fail
      go_ret
      rw [HM3.out]
      exact ⟨rfl, HE.out⟩

end Go.Proofs.YtiimccogojkldaaGreatDoor

/- Greater of the program. -/
namespace Go.Proofs.YtiimccogojkldaaGreatDoor
open Go.RowKit Go.Hw Go
set_option linter.unusedVariables false
set_option linter.unusedSimpArgs false

open Tm
theorem nm_ok {s : By} (h : nmB s = true) : NoCS s ∧ s.size ≤ 40 := by
  unfold nmB at h
  rw [Bool.and_eq_true, Bool.and_eq_true, Bool.and_eq_true, decide_eq_true_eq, List.all_eq_true] at h
  refine ⟨⟨fun hm => ?_, fun hm => ?_⟩, h.1.2⟩
  · have := h.2.2.1 _ hm; revert this; decide
  · have := h.2.2.1 _ hm; revert this; decide
theorem wf_ok {ops : List By} {t : Tm} (h : wf nmB t = true) (hk : knowsP ops t = true) : ∀ x ∈ sbts t, OkN ops x := by
  intro x hx
  obtain ⟨h1, h2, h3⟩ := (formed_nd (wf_formed h)).2 x hx
  have h4 := nm_ok h1
  refine ⟨h4.1, ?_, fun hs => knowsP_iff.1 hk _ (mem_opN.2 ⟨x, hx, hs, rfl⟩), by omega, ?_⟩
  · rcases h3 with e | e
    · rw [e]; exact NoCS.nul
    · exact (nm_ok e.1).1
  · rcases h3 with e | e
    · rw [e]; show (0 : Nat) ≤ 1000; omega
    · have := (nm_ok e.1).2; omega
theorem pair_tl {S : Nat → Prop} {W : World} {n : Nat} {a b : Tm} {ua ub : Value} (h : W.heap[n]? = some (.cells #[.string a.name, .string a.sort, ua, .string b.name, .string b.sort, ub] 25 (0, 0))) (hn : S n) (ha : TlR S W a.kids ua) (hb : TlR S W b.kids ub) : TlR S W [a, b] (.slice (some ⟨n, 0, none⟩) 2 2) := by
  refine .mk _ [ua, ub] _ rfl ?_ (fun i hi => ?_)
  · refine SlR.mk' rfl rfl (Nat.le_refl _) (fun _ => hn) (fun j hj => ?_)
    have hj6 : j < 6 := hj
    rw [Nat.zero_add, cell_of_row W n j _ _ _ h]
    have : j = 0 ∨ j = 1 ∨ j = 2 ∨ j = 3 ∨ j = 4 ∨ j = 5 := by omega
    rcases this with rfl | rfl | rfl | rfl | rfl | rfl <;> rfl
  · have : i = 0 ∨ i = 1 := by simp at hi; omega
    rcases this with rfl | rfl
    · exact ha
    · exact hb
set_option maxRecDepth 100000 in
set_option maxHeartbeats 2000000 in
theorem pgreater_x (ops : List By) (a b : Tm) (ov va vb : Value) (S : Nat → Prop) (w : World) (htab : AscT w) (hpow : Lib.TabIs Tryz.prog w "internal/strconv.uint64pow10" .u64 Lib.pow10Tab) (hO : StR S w ov ops) (ha : TmR S w a va) (hb : TmR S w b vb) (hS : ∀ k, S k → k < w.heap.size) (hol : ops.length ≤ 1000000) (hza : a.size ≤ 10000) (hzb : b.size ≤ 10000) :
    Calls Tryz.prog 12 #[ov, va, vb] w fun e w' => e = .returned (.tuple #[.bool (grF ops a b).1, .int .i64 (grF ops a b).2]) ∧ Ext w w' := by
  obtain ⟨oa, oc, rfl⟩ := SlR.shape hO
  obtain ⟨aa, ac, rfl, hta⟩ := ha
  obtain ⟨ba, bc, rfl, htb⟩ := hb
  dsimp only [tV]
  have HP := Lib.hid (fun W (hW : Ext w W) => prec_x ops _ S W (SlR.kept hO hW (fun _ _ h => h)) (asc_ext htab hW) hol)
  have hpl : ∀ W, Ext w W → TlR (fun k => k < (W.alloc (.cells #[.string a.name, .string a.sort, .slice aa a.kids.length ac, .string b.name, .string b.sort, .slice ba b.kids.length bc] 25)).heap.size) (W.alloc (.cells #[.string a.name, .string a.sort, .slice aa a.kids.length ac, .string b.name, .string b.sort, .slice ba b.kids.length bc] 25)) [a, b] (.slice (some ⟨W.heap.size, 0, none⟩) 2 2) := fun W hW =>
    pair_tl (alloc0 W _) (by simp) ((hta.ext (hW.alloc (.cells #[.string a.name, .string a.sort, .slice aa a.kids.length ac, .string b.name, .string b.sort, .slice ba b.kids.length bc] 25))).weaken (fun k hk => Nat.lt_of_lt_of_le (hS k hk) (hW.alloc (.cells #[.string a.name, .string a.sort, .slice aa a.kids.length ac, .string b.name, .string b.sort, .slice ba b.kids.length bc] 25)).size)) ((htb.ext (hW.alloc (.cells #[.string a.name, .string a.sort, .slice aa a.kids.length ac, .string b.name, .string b.sort, .slice ba b.kids.length bc] 25))).weaken (fun k hk => Nat.lt_of_lt_of_le (hS k hk) (hW.alloc (.cells #[.string a.name, .string a.sort, .slice aa a.kids.length ac, .string b.name, .string b.sort, .slice ba b.kids.length bc] 25)).size))
  have HF := Lib.hid (fun W (hW : Ext w W) => forms_x [a, b] _ (W.alloc (.cells #[.string a.name, .string a.sort, .slice aa a.kids.length ac, .string b.name, .string b.sort, .slice ba b.kids.length bc] 25)) (asc_ext htab (hW.alloc (.cells #[.string a.name, .string a.sort, .slice aa a.kids.length ac, .string b.name, .string b.sort, .slice ba b.kids.length bc] 25))) (hpl W hW) (by simp) (fun t ht => by simp at ht; rcases ht with rfl | rfl <;> omega))
  have HK := Lib.hid (fun W (hW : Ext w W) => know_x ops [a, b] _ _ _ (W.alloc (.cells #[.string a.name, .string a.sort, .slice aa a.kids.length ac, .string b.name, .string b.sort, .slice ba b.kids.length bc] 25)) (SlR.weaken (SlR.kept hO (hW.alloc (.cells #[.string a.name, .string a.sort, .slice aa a.kids.length ac, .string b.name, .string b.sort, .slice ba b.kids.length bc] 25)) (fun _ _ h => h)) (fun k hk => Nat.lt_of_lt_of_le (hS k hk) (hW.alloc (.cells #[.string a.name, .string a.sort, .slice aa a.kids.length ac, .string b.name, .string b.sort, .slice ba b.kids.length bc] 25)).size)) (hpl W hW) (fun k hk => hk) hol (by simp) (fun t ht => by simp at ht; rcases ht with rfl | rfl <;> omega))
  have HNO0 : Hid (precP nmB ops = true → ∀ W, Ext w W → Calls Tryz.prog 42 #[.slice oa ops.length oc] W fun e w' => ∃ b B, e = .returned (.pointer (some ⟨b, 0, none⟩)) ∧ OrdR 144 114 ops (fun _ => False) B w.heap.size w' b [] ∧ Ext W w' ∧ (∀ j, B j → W.heap.size ≤ j)) := Lib.hid (fun hp W hW => newO_x ops _ S w.heap.size W (SlR.kept hO hW (fun _ _ h => h)) (fun k hk => Nat.lt_of_lt_of_le (hS k hk) hW.size) ((precP_iff _ _).1 hp).2.2 hW.size hol)
  have HCM0 : Hid (precP nmB ops = true → wf nmB a = true → wf nmB b = true → knowsP ops a = true → knowsP ops b = true → ∀ W bb B, Ext w W → OrdR 144 114 ops (fun _ => False) B w.heap.size W bb [] → Calls Tryz.prog 43 #[.pointer (some ⟨bb, 0, none⟩), .agg #[.string a.name, .string a.sort, .slice aa a.kids.length ac], .agg #[.string b.name, .string b.sort, .slice ba b.kids.length bc]] W fun e w' => e = .returned (.bool (gt (ixF ops) a b)) ∧ Upd B W w') := Lib.hid (fun hp hfa hfb hka hkb W bb B hW ho =>
    (ocomp_x ops w.heap.size bb [] a b _ _ B S W ho ⟨aa, ac, rfl, hta.ext hW⟩ ⟨ba, bc, rfl, htb.ext hW⟩ hS hW.size (by have h1 := wf_size hfa; have h2 := wf_size hfb; show 0 + _ + _ ≤ _; omega) (wf_ok hfa hka) (wf_ok hfb hkb) (fun W2 h2 => pow_upd hpow ((hW.mono (G := fun j => w.heap.size ≤ j) (fun _ _ x => x.elim)).trans h2) (fun k hk h => by omega))).mono fun e w' ⟨_, _, h1, _, h2, _⟩ => ⟨h1, h2⟩)
  have hall : [a, b].all (wf nmB) = (wf nmB a && wf nmB b) := by simp
  have hall2 : [a, b].all (knowsP ops) = (knowsP ops a && knowsP ops b) := by simp
  rw [hall] at HF
  rw [hall2] at HK
  have H0 : Hid (Ext w ((w.alloc (.cells #[.string a.name, .string a.sort, .slice aa a.kids.length ac] 25)).alloc (.cells #[.string b.name, .string b.sort, .slice ba b.kids.length bc] 25))) := Lib.hid (((Upd.refl (fun _ => False) w).alloc _).alloc _)
  have HA : Hid (((w.alloc (.cells #[.string a.name, .string a.sort, .slice aa a.kids.length ac] 25)).alloc (.cells #[.string b.name, .string b.sort, .slice ba b.kids.length bc] 25)).heap[w.heap.size]? = some (.cells #[.string a.name, .string a.sort, .slice aa a.kids.length ac] 25 (0, 0))) := Lib.hid (allocOld (alloc0 w (.cells #[.string a.name, .string a.sort, .slice aa a.kids.length ac] 25)) (.cells #[.string b.name, .string b.sort, .slice ba b.kids.length bc] 25))
  have HB : Hid (((w.alloc (.cells #[.string a.name, .string a.sort, .slice aa a.kids.length ac] 25)).alloc (.cells #[.string b.name, .string b.sort, .slice ba b.kids.length bc] 25)).heap[w.heap.size + 1]? = some (.cells #[.string b.name, .string b.sort, .slice ba b.kids.length bc] 25 (0, 0))) := Lib.hid (alloc_at (w.alloc (.cells #[.string a.name, .string a.sort, .slice aa a.kids.length ac] 25)) (.cells #[.string b.name, .string b.sort, .slice ba b.kids.length bc] 25) (n := w.heap.size + 1) (by simp))
  clear hO hS hpl hall hall2 hta htb htab hpow
  obtain ⟨P, hP⟩ : ∃ x, precP nmB ops = x := ⟨_, rfl⟩
  rw [hP] at HP
  cases P
  · have HV : Hid (grF ops a b = (false, 1)) := Lib.hid (by unfold grF; simp [hP])
    clear hP
    have p0 := cellRow HA.out 0 (.string a.name) rfl
    have p1 := cellRow HA.out 1 (.string a.sort) rfl
    have p2 := cellRow HA.out 2 (.slice aa a.kids.length ac) rfl
    have q0 := cellRow HB.out 0 (.string b.name) rfl
    have q1 := cellRow HB.out 1 (.string b.sort) rfl
    have q2 := cellRow HB.out 2 (.slice ba b.kids.length bc) rfl
    go_enter Tryz.func12, Tryz.ntmps12
    go_wp2_with fail
    refine (HP.out _ H0.out).mono ?_
    rintro e w4 ⟨rfl, hw4⟩
    have H4 := Lib.hid (H0.out.trans hw4)
    have HA_4 := Lib.hid (hw4.heap HA.out (fun h => h))
    have HB_4 := Lib.hid (hw4.heap HB.out (fun h => h))
    clear hw4 p0 p1 p2 q0 q1 q2
    have p0 := cellRow HA_4.out 0 (.string a.name) rfl
    have p1 := cellRow HA_4.out 1 (.string a.sort) rfl
    have p2 := cellRow HA_4.out 2 (.slice aa a.kids.length ac) rfl
    have q0 := cellRow HB_4.out 0 (.string b.name) rfl
    have q1 := cellRow HB_4.out 1 (.string b.sort) rfl
    have q2 := cellRow HB_4.out 2 (.slice ba b.kids.length bc) rfl
    go_wp2_with fail
    go_ret2
    rw [HV.out]
    exact ⟨rfl, H4.out⟩
  cases hF : (wf nmB a && wf nmB b)
  · rw [hF] at HF
    have hfo : wf nmB a = false ∨ wf nmB b = false := by cases h1 : wf nmB a <;> cases h2 : wf nmB b <;> simp_all
    clear hF
    have HV : Hid (grF ops a b = (false, 1)) := Lib.hid (by unfold grF; simp [hP, hfo])
    clear hP hfo
    have p0 := cellRow HA.out 0 (.string a.name) rfl
    have p1 := cellRow HA.out 1 (.string a.sort) rfl
    have p2 := cellRow HA.out 2 (.slice aa a.kids.length ac) rfl
    have q0 := cellRow HB.out 0 (.string b.name) rfl
    have q1 := cellRow HB.out 1 (.string b.sort) rfl
    have q2 := cellRow HB.out 2 (.slice ba b.kids.length bc) rfl
    go_enter Tryz.func12, Tryz.ntmps12
    go_wp2_with fail
    refine (HP.out _ H0.out).mono ?_
    rintro e w4 ⟨rfl, hw4⟩
    have H4 := Lib.hid (H0.out.trans hw4)
    have HA_4 := Lib.hid (hw4.heap HA.out (fun h => h))
    have HB_4 := Lib.hid (hw4.heap HB.out (fun h => h))
    clear hw4 p0 p1 p2 q0 q1 q2
    have p0 := cellRow HA_4.out 0 (.string a.name) rfl
    have p1 := cellRow HA_4.out 1 (.string a.sort) rfl
    have p2 := cellRow HA_4.out 2 (.slice aa a.kids.length ac) rfl
    have q0 := cellRow HB_4.out 0 (.string b.name) rfl
    have q1 := cellRow HB_4.out 1 (.string b.sort) rfl
    have q2 := cellRow HB_4.out 2 (.slice ba b.kids.length bc) rfl
    go_wp2_with fail
    refine (HF.out _ H4.out).mono ?_
    rintro e w5 ⟨rfl, hw5⟩
    have H5 := Lib.hid ((H4.out.alloc (.cells #[.string a.name, .string a.sort, .slice aa a.kids.length ac, .string b.name, .string b.sort, .slice ba b.kids.length bc] 25)).trans hw5)
    have HA_5 := Lib.hid (hw5.heap (allocOld HA_4.out (.cells #[.string a.name, .string a.sort, .slice aa a.kids.length ac, .string b.name, .string b.sort, .slice ba b.kids.length bc] 25)) (fun h => h))
    have HB_5 := Lib.hid (hw5.heap (allocOld HB_4.out (.cells #[.string a.name, .string a.sort, .slice aa a.kids.length ac, .string b.name, .string b.sort, .slice ba b.kids.length bc] 25)) (fun h => h))
    clear hw5 p0 p1 p2 q0 q1 q2
    have p0 := cellRow HA_5.out 0 (.string a.name) rfl
    have p1 := cellRow HA_5.out 1 (.string a.sort) rfl
    have p2 := cellRow HA_5.out 2 (.slice aa a.kids.length ac) rfl
    have q0 := cellRow HB_5.out 0 (.string b.name) rfl
    have q1 := cellRow HB_5.out 1 (.string b.sort) rfl
    have q2 := cellRow HB_5.out 2 (.slice ba b.kids.length bc) rfl
    go_wp2_with fail
    go_ret2
    rw [HV.out]
    exact ⟨rfl, H5.out⟩
  rw [hF] at HF
  obtain ⟨hfa, hfb⟩ : wf nmB a = true ∧ wf nmB b = true := by rw [Bool.and_eq_true] at hF; exact hF
  have HFA := Lib.hid hfa
  have HFB := Lib.hid hfb
  clear hF
  cases hK : (knowsP ops a && knowsP ops b)
  · rw [hK] at HK
    have hko : knowsP ops a = false ∨ knowsP ops b = false := by cases h1 : knowsP ops a <;> cases h2 : knowsP ops b <;> simp_all
    clear hK
    have HV : Hid (grF ops a b = (false, 9)) := Lib.hid (by unfold grF; simp [hP, hfa, hfb, hko])
    clear hP hfa hfb hko
    have p0 := cellRow HA.out 0 (.string a.name) rfl
    have p1 := cellRow HA.out 1 (.string a.sort) rfl
    have p2 := cellRow HA.out 2 (.slice aa a.kids.length ac) rfl
    have q0 := cellRow HB.out 0 (.string b.name) rfl
    have q1 := cellRow HB.out 1 (.string b.sort) rfl
    have q2 := cellRow HB.out 2 (.slice ba b.kids.length bc) rfl
    go_enter Tryz.func12, Tryz.ntmps12
    go_wp2_with fail
    refine (HP.out _ H0.out).mono ?_
    rintro e w4 ⟨rfl, hw4⟩
    have H4 := Lib.hid (H0.out.trans hw4)
    have HA_4 := Lib.hid (hw4.heap HA.out (fun h => h))
    have HB_4 := Lib.hid (hw4.heap HB.out (fun h => h))
    clear hw4 p0 p1 p2 q0 q1 q2
    have p0 := cellRow HA_4.out 0 (.string a.name) rfl
    have p1 := cellRow HA_4.out 1 (.string a.sort) rfl
    have p2 := cellRow HA_4.out 2 (.slice aa a.kids.length ac) rfl
    have q0 := cellRow HB_4.out 0 (.string b.name) rfl
    have q1 := cellRow HB_4.out 1 (.string b.sort) rfl
    have q2 := cellRow HB_4.out 2 (.slice ba b.kids.length bc) rfl
    go_wp2_with fail
    refine (HF.out _ H4.out).mono ?_
    rintro e w5 ⟨rfl, hw5⟩
    have H5 := Lib.hid ((H4.out.alloc (.cells #[.string a.name, .string a.sort, .slice aa a.kids.length ac, .string b.name, .string b.sort, .slice ba b.kids.length bc] 25)).trans hw5)
    have HA_5 := Lib.hid (hw5.heap (allocOld HA_4.out (.cells #[.string a.name, .string a.sort, .slice aa a.kids.length ac, .string b.name, .string b.sort, .slice ba b.kids.length bc] 25)) (fun h => h))
    have HB_5 := Lib.hid (hw5.heap (allocOld HB_4.out (.cells #[.string a.name, .string a.sort, .slice aa a.kids.length ac, .string b.name, .string b.sort, .slice ba b.kids.length bc] 25)) (fun h => h))
    clear hw5 p0 p1 p2 q0 q1 q2
    have p0 := cellRow HA_5.out 0 (.string a.name) rfl
    have p1 := cellRow HA_5.out 1 (.string a.sort) rfl
    have p2 := cellRow HA_5.out 2 (.slice aa a.kids.length ac) rfl
    have q0 := cellRow HB_5.out 0 (.string b.name) rfl
    have q1 := cellRow HB_5.out 1 (.string b.sort) rfl
    have q2 := cellRow HB_5.out 2 (.slice ba b.kids.length bc) rfl
    go_wp2_with fail
    refine (HK.out _ H5.out).mono ?_
    rintro e w6 ⟨rfl, hw6⟩
    have H6 := Lib.hid ((H5.out.alloc (.cells #[.string a.name, .string a.sort, .slice aa a.kids.length ac, .string b.name, .string b.sort, .slice ba b.kids.length bc] 25)).trans hw6)
    have HA_6 := Lib.hid (hw6.heap (allocOld HA_5.out (.cells #[.string a.name, .string a.sort, .slice aa a.kids.length ac, .string b.name, .string b.sort, .slice ba b.kids.length bc] 25)) (fun h => h))
    have HB_6 := Lib.hid (hw6.heap (allocOld HB_5.out (.cells #[.string a.name, .string a.sort, .slice aa a.kids.length ac, .string b.name, .string b.sort, .slice ba b.kids.length bc] 25)) (fun h => h))
    clear hw6 p0 p1 p2 q0 q1 q2
    have p0 := cellRow HA_6.out 0 (.string a.name) rfl
    have p1 := cellRow HA_6.out 1 (.string a.sort) rfl
    have p2 := cellRow HA_6.out 2 (.slice aa a.kids.length ac) rfl
    have q0 := cellRow HB_6.out 0 (.string b.name) rfl
    have q1 := cellRow HB_6.out 1 (.string b.sort) rfl
    have q2 := cellRow HB_6.out 2 (.slice ba b.kids.length bc) rfl
    go_wp2_with fail
    go_ret2
    rw [HV.out]
    exact ⟨rfl, H6.out⟩
  rw [hK] at HK
  obtain ⟨hka, hkb⟩ : knowsP ops a = true ∧ knowsP ops b = true := by rw [Bool.and_eq_true] at hK; exact hK
  clear hK
  have HNO := Lib.hid (HNO0.out hP)
  have HCM := Lib.hid (HCM0.out hP hfa hfb hka hkb)
  obtain ⟨GV, hGV⟩ : ∃ x, gt (ixF ops) a b = x := ⟨_, rfl⟩
  rw [hGV] at HCM
  have HV : Hid (grF ops a b = (GV, 0)) := Lib.hid (by unfold grF; simp [hP, hfa, hfb, hka, hkb, hGV])
  clear hP hfa hfb hka hkb hGV
  have p0 := cellRow HA.out 0 (.string a.name) rfl
  have p1 := cellRow HA.out 1 (.string a.sort) rfl
  have p2 := cellRow HA.out 2 (.slice aa a.kids.length ac) rfl
  have q0 := cellRow HB.out 0 (.string b.name) rfl
  have q1 := cellRow HB.out 1 (.string b.sort) rfl
  have q2 := cellRow HB.out 2 (.slice ba b.kids.length bc) rfl
  go_enter Tryz.func12, Tryz.ntmps12
  go_wp2_with fail
  refine (HP.out _ H0.out).mono ?_
  rintro e w4 ⟨rfl, hw4⟩
  have H4 := Lib.hid (H0.out.trans hw4)
  have HA_4 := Lib.hid (hw4.heap HA.out (fun h => h))
  have HB_4 := Lib.hid (hw4.heap HB.out (fun h => h))
  clear hw4 p0 p1 p2 q0 q1 q2
  have p0 := cellRow HA_4.out 0 (.string a.name) rfl
  have p1 := cellRow HA_4.out 1 (.string a.sort) rfl
  have p2 := cellRow HA_4.out 2 (.slice aa a.kids.length ac) rfl
  have q0 := cellRow HB_4.out 0 (.string b.name) rfl
  have q1 := cellRow HB_4.out 1 (.string b.sort) rfl
  have q2 := cellRow HB_4.out 2 (.slice ba b.kids.length bc) rfl
  go_wp2_with fail
  refine (HF.out _ H4.out).mono ?_
  rintro e w5 ⟨rfl, hw5⟩
  have H5 := Lib.hid ((H4.out.alloc (.cells #[.string a.name, .string a.sort, .slice aa a.kids.length ac, .string b.name, .string b.sort, .slice ba b.kids.length bc] 25)).trans hw5)
  have HA_5 := Lib.hid (hw5.heap (allocOld HA_4.out (.cells #[.string a.name, .string a.sort, .slice aa a.kids.length ac, .string b.name, .string b.sort, .slice ba b.kids.length bc] 25)) (fun h => h))
  have HB_5 := Lib.hid (hw5.heap (allocOld HB_4.out (.cells #[.string a.name, .string a.sort, .slice aa a.kids.length ac, .string b.name, .string b.sort, .slice ba b.kids.length bc] 25)) (fun h => h))
  clear hw5 p0 p1 p2 q0 q1 q2
  have p0 := cellRow HA_5.out 0 (.string a.name) rfl
  have p1 := cellRow HA_5.out 1 (.string a.sort) rfl
  have p2 := cellRow HA_5.out 2 (.slice aa a.kids.length ac) rfl
  have q0 := cellRow HB_5.out 0 (.string b.name) rfl
  have q1 := cellRow HB_5.out 1 (.string b.sort) rfl
  have q2 := cellRow HB_5.out 2 (.slice ba b.kids.length bc) rfl
  go_wp2_with fail
  refine (HK.out _ H5.out).mono ?_
  rintro e w6 ⟨rfl, hw6⟩
  have H6 := Lib.hid ((H5.out.alloc (.cells #[.string a.name, .string a.sort, .slice aa a.kids.length ac, .string b.name, .string b.sort, .slice ba b.kids.length bc] 25)).trans hw6)
  have HA_6 := Lib.hid (hw6.heap (allocOld HA_5.out (.cells #[.string a.name, .string a.sort, .slice aa a.kids.length ac, .string b.name, .string b.sort, .slice ba b.kids.length bc] 25)) (fun h => h))
  have HB_6 := Lib.hid (hw6.heap (allocOld HB_5.out (.cells #[.string a.name, .string a.sort, .slice aa a.kids.length ac, .string b.name, .string b.sort, .slice ba b.kids.length bc] 25)) (fun h => h))
  clear hw6 p0 p1 p2 q0 q1 q2
  have p0 := cellRow HA_6.out 0 (.string a.name) rfl
  have p1 := cellRow HA_6.out 1 (.string a.sort) rfl
  have p2 := cellRow HA_6.out 2 (.slice aa a.kids.length ac) rfl
  have q0 := cellRow HB_6.out 0 (.string b.name) rfl
  have q1 := cellRow HB_6.out 1 (.string b.sort) rfl
  have q2 := cellRow HB_6.out 2 (.slice ba b.kids.length bc) rfl
  go_wp2_with fail
  have HBA0 := HA_6
  have HBB0 := HB_6
  have HD0 : Hid (Ext w w6.drew) := Lib.hid (H6.out.drew)
  have hbA := HBA0.out
  have hbB := HBB0.out
  go_region_held3 (fun w' => w'.cell? ⟨w.heap.size, 0, none⟩ = some (.string a.name) ∧ w'.cell? ⟨w.heap.size, 1, none⟩ = some (.string a.sort) ∧ w'.cell? ⟨w.heap.size, 2, none⟩ = some (.slice aa a.kids.length ac) ∧ w'.cell? ⟨w.heap.size + 1, 0, none⟩ = some (.string b.name) ∧ w'.cell? ⟨w.heap.size + 1, 1, none⟩ = some (.string b.sort) ∧ w'.cell? ⟨w.heap.size + 1, 2, none⟩ = some (.slice ba b.kids.length bc))
    (first | go_keep | exact ⟨cellRow hbA 0 (.string a.name) rfl, cellRow hbA 1 (.string a.sort) rfl, cellRow hbA 2 (.slice aa a.kids.length ac) rfl, cellRow hbB 0 (.string b.name) rfl, cellRow hbB 1 (.string b.sort) rfl, cellRow hbB 2 (.slice ba b.kids.length bc) rfl⟩)
    (first
      | (go_at_call 42; refine (HNO.out w6.drew HD0.out).mono ?_; rintro e w7 ⟨b7, B7, rfl, ho7, hw7, hb7⟩; have hbA := hw7.heap (show w6.drew.heap[w.heap.size]? = _ from HBA0.out) (fun h => h); have hbB := hw7.heap (show w6.drew.heap[w.heap.size + 1]? = _ from HBB0.out) (fun h => h); have HBA7 := Lib.hid hbA; have HBB7 := Lib.hid hbB; have HX7 := Lib.hid (And.intro ho7 (And.intro (HD0.out.trans hw7) hb7)); clear ho7 hw7 hb7)
      | (go_at_call 43; refine (HCM.out w7 b7 B7 HX7.out.2.1 HX7.out.1).mono ?_; rintro e w8 ⟨rfl, hu8⟩; have HS8 : Hid (∀ j, B7 j → w6.heap.size ≤ j) := Lib.hid HX7.out.2.2; have hbA := hu8.heap HBA7.out (fun h => by have h1 := HS8.out _ h; have h2 := (Array.getElem?_eq_some_iff.1 HBA0.out).1; omega); have hbB := hu8.heap HBB7.out (fun h => by have h1 := HS8.out _ h; have h2 := (Array.getElem?_eq_some_iff.1 HBB0.out).1; omega); have HU8 := Lib.hid hu8; clear hu8))
  all_goals (try (go_wp2_with fail))
  all_goals go_ret2
  all_goals (
    rw [HV.out]
    exact ⟨rfl, HX7.out.2.1.trans' HU8.out (fun j hj h => by have h1 := HS8.out j h; have h2 := HD0.out.size; have h3 : w.heap.size ≤ w6.heap.size := h2; omega)⟩)

end Go.Proofs.YtiimccogojkldaaGreatDoor
