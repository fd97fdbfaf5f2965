/- The texts N11 N12 N13 N14 N15 N16 N17, one behind the other. -/
import Derived.Test.YtlkcjmaiahnodaaGreatDoorYAK
import Derived.Test.YtlkcjmaiahnodaaGreatDoorYAE
import Derived.Test.YtlkcjmaiahnodaaGreatDoorYAD
import Derived.Test.YtlkcjmaiahnodaaGreatDoorYAH
import Derived.Test.YtlkcjmaiahnodaaGreatDoorYAI
/- is; the sort of bindings. -/
namespace Go.Proofs.YtlkcjmaiahnodaaGreatDoor
open Go.RowKit Go.Hw Go
set_option linter.unusedVariables false
set_option linter.unusedSimpArgs false

open Tm Go.Sort Go.Proofs Go.ChangeMaps
abbrev Be := Bd × Option Addr × Nat × Nat
abbrev beV (x : Be) : Value := .slice x.2.1 x.2.2.1 x.2.2.2
abbrev beEnc (x : Be) : List Value := [.string x.1.1, .string x.1.2.1, .string x.1.2.2.name, .string x.1.2.2.sort, beV x]
abbrev beK (x : Be) : By := x.1.1
theorem flat_len5 : ∀ (L : List Be), (L.flatMap beEnc).length = L.length * 5
  | [] => rfl
  | x :: L => by rw [List.flatMap_cons, List.length_append, flat_len5 L, List.length_cons]; simp only [beEnc, List.length_cons, List.length_nil]; omega
def isB (t : Tm) (nm so : By) : Bool := !decide (t.sort = nul) && decide (t.name = nm) && decide (t.sort = so)
set_option maxRecDepth 100000 in
set_option maxHeartbeats 2000000 in
theorem is_x (t : Tm) (a : Option Addr) (cap : Nat) (nm so : By) (w : World) : Calls Tryz.prog 93 #[tV t (.slice a t.kids.length cap), .string nm, .string so] w fun e w' => e = .returned (.bool (isB t nm so)) ∧ Ext w w' := by
  have hb := alloc0 w (.cells #[.string t.name, .string t.sort, .slice a t.kids.length cap] 24)
  have HZ := Lib.hid ((Upd.refl (fun _ => False) w).alloc (.cells #[.string t.name, .string t.sort, .slice a t.kids.length cap] 24))
  have HV := Lib.hid (fun W => variable_x t.name t.sort a t.kids.length cap W)
  have c0 := cellRow hb 0 (.string t.name) rfl
  have c1 := cellRow hb 1 (.string t.sort) rfl
  have c2 := cellRow hb 2 (.slice a t.kids.length cap) rfl
  have HB := Lib.hid hb
  have s1 := str_dc t.name nm
  have s2 := str_dc t.sort so
  have HI : Hid (isB t nm so = (!decide (t.sort = nul) && decide (t.name = nm) && decide (t.sort = so))) := Lib.hid rfl
  generalize isB t nm so = R at *
  generalize decide (t.sort = nul) = d0 at *
  generalize decide (t.name = nm) = d1 at *
  generalize decide (t.sort = so) = d2 at *
  clear hb
  go_enter Tryz.func93, Tryz.ntmps93
  go_wp2_with fail
  refine (HV.out _).mono ?_
  rintro e w4 ⟨rfl, hw4⟩
  have H4 := Lib.hid (HZ.out.trans hw4)
  have HB4 := Lib.hid (hw4.heap HB.out (fun h => h))
  clear hw4 c0 c1 c2
  have c0 := cellRow HB4.out 0 (.string t.name) rfl
  have c1 := cellRow HB4.out 1 (.string t.sort) rfl
  have c2 := cellRow HB4.out 2 (.slice a t.kids.length cap) rfl
  cases d0 with
  | true =>
    obtain rfl : R = false := HI.out
    go_wp2_with fail
    go_ret
    exact ⟨rfl, H4.out⟩
  | false =>
    cases d1 with
    | false =>
      obtain rfl : R = false := HI.out
      go_wp2_with fail
      go_ret
      exact ⟨rfl, H4.out⟩
    | true =>
      obtain rfl : R = d2 := HI.out
      go_wp2_with fail
      go_ret
      exact ⟨rfl, H4.out⟩
set_option maxRecDepth 100000 in
set_option maxHeartbeats 2000000 in
theorem cmpB135_x (x y : Be) (w : World) : Calls Tryz.prog 135 #[.agg (beEnc x).toArray, .agg (beEnc y).toArray] w fun e w' => e = .returned (.int .i64 (cfN beK x y)) ∧ ∃ q os', w' = grow (w.drewN q) os' := by
  have hb0 := allocOld (alloc0 w (.cells #[.string x.1.1, .string x.1.2.1, .string x.1.2.2.name, .string x.1.2.2.sort, beV x] 93)) (.cells #[.string y.1.1, .string y.1.2.1, .string y.1.2.2.name, .string y.1.2.2.sort, beV y] 93)
  have hb1 := alloc_at (w.alloc (.cells #[.string x.1.1, .string x.1.2.1, .string x.1.2.2.name, .string x.1.2.2.sort, beV x] 93)) (.cells #[.string y.1.1, .string y.1.2.1, .string y.1.2.2.name, .string y.1.2.2.sort, beV y] 93) (n := w.heap.size + 1) (by simp)
  have c0 := cellRow hb0 0 (.string x.1.1) rfl
  have d0 := cellRow hb1 0 (.string y.1.1) rfl
  have hc := fun W => Tryz.strings_Compare x.1.1 y.1.1 W
  change ∀ W, Calls _ _ _ W fun e w' => e = .returned (.int .i64 (cfN beK x y)) ∧ w' = W at hc
  have HC := Lib.hid hc
  generalize cfN beK x y = r at *
  clear hb0 hb1 hc
  go_enter Tryz.func135, Tryz.ntmps135
  go_wp2_with fail
  refine (HC.out _).mono ?_
  rintro e w4 ⟨rfl, rfl⟩
  go_wp2_with fail
  go_ret
  exact ⟨rfl, 0, _, by rw [alloc_eq_grow, alloc_eq_grow, grow_grow]; rfl⟩
set_option maxRecDepth 100000 in
set_option maxHeartbeats 2000000 in
theorem sortB135_x (L : List Be) (base : Nat) (v : Value) (w : World) (hO : w.ownsRow base 93 5 v L.length (L.flatMap beEnc)) (hd : L.Pairwise fun x y => x.1.1 ≠ y.1.1) (hl : L.length ≤ 1000000) :
    Calls Tryz.prog 97 #[v, .func (.func 135) #[] #[]] w fun e w' => e = .returned (.tuple #[]) ∧ ∃ L' : List Be, AscK beK L' ∧ L'.Perm L ∧ SlR (fun k => v.ownBlock = some k) w' 5 v L'.length (L'.flatMap beEnc) ∧ Upd (fun k => v.ownBlock = some k) w w' := by
  by_cases h0 : 0 < L.length
  · obtain ⟨g, cap, rfl, hb, hgl, hnc, hcell, hfz⟩ := ownAt hO h0
    have hH : HoldsK beEnc 5 w g 0 L.toArray := holdsK_of beEnc 5 (fun _ => rfl) (fun j hj => ⟨by rw [Nat.zero_add]; exact hcell j hj, hfz _⟩)
    have eg : ∀ args w, (callFunc 135 args).run Tryz.prog w = .ok (.enter 135 args) w := enters_of Tryz.func135 (by kernel_rfl) rfl
    have h := Tryz.slices_SortFunc_f97 5 (fun w => Tryz.isAgg93 w) (fun w => Tryz.sizeOf93 w) beEnc (fun _ => rfl) (fun x u hu => by simp [beEnc] at hu; rcases hu with h | h | h | h | h <;> (subst h; rfl)) (cfN beK) (swo_cfN _) 135 #[] g 0 cap L.toArray w eg (fun m os dk _ x y => cmpB135_x x y _) hH hgl (by simp; omega)
    rw [show L.toArray.size = L.length by simp] at h
    refine h.mono ?_
    rintro e w' ⟨rfl, d', n, os, hp, hs, rfl⟩
    have hsz : d'.size = L.length := by have := hp.1; simpa using this
    obtain ⟨ha, hperm⟩ := sort_asc (d := L.toArray) beK (by rw [show L.toArray.size = L.length by simp]; exact hp) (by rw [show L.toArray.size = L.length by simp]; exact hs) (by simpa using hd)
    have hl' : d'.toList.length = L.length := by simpa using hsz
    refine ⟨rfl, d'.toList, ha, by simpa using hperm, ?_, (upd_sortK beEnc 5 w g 0 n d' os).mono (fun k _ e => by rw [e]; rfl)⟩
    have hH' := holdsK_sortWorldK_c beEnc 5 w g 0 L.toArray d' n os hH hgl (by simpa using hsz)
    rw [hl']
    refine SlR.mk' (by rw [flat_len5, hl']) rfl hnc (fun _ => rfl) (fun j hj => ?_)
    exact (cells_holdsK beEnc 5 (fun _ => rfl) hH' j (by rw [hsz]; exact hj)).1
  · have hl0 : L = [] := List.eq_nil_of_length_eq_zero (by omega)
    subst hl0
    obtain ⟨a, cap, rfl⟩ := own_shape hO
    have h := Tryz.slices_SortFunc_none_f97 (α := Be) a cap (.func (.func 135) #[] #[]) w
    refine h.mono ?_
    rintro e w' ⟨rfl, rfl⟩
    exact ⟨rfl, [], List.Pairwise.nil, List.Perm.refl _, SlR.of_own hO, Upd.refl _ _⟩
set_option maxRecDepth 100000 in
set_option maxHeartbeats 2000000 in
theorem cmpB98_x (x y : Be) (w : World) : Calls Tryz.prog 98 #[.agg (beEnc x).toArray, .agg (beEnc y).toArray] w fun e w' => e = .returned (.int .i64 (cfN beK x y)) ∧ ∃ q os', w' = grow (w.drewN q) os' := by
  have hb0 := allocOld (alloc0 w (.cells #[.string x.1.1, .string x.1.2.1, .string x.1.2.2.name, .string x.1.2.2.sort, beV x] 93)) (.cells #[.string y.1.1, .string y.1.2.1, .string y.1.2.2.name, .string y.1.2.2.sort, beV y] 93)
  have hb1 := alloc_at (w.alloc (.cells #[.string x.1.1, .string x.1.2.1, .string x.1.2.2.name, .string x.1.2.2.sort, beV x] 93)) (.cells #[.string y.1.1, .string y.1.2.1, .string y.1.2.2.name, .string y.1.2.2.sort, beV y] 93) (n := w.heap.size + 1) (by simp)
  have c0 := cellRow hb0 0 (.string x.1.1) rfl
  have d0 := cellRow hb1 0 (.string y.1.1) rfl
  have hc := fun W => Tryz.strings_Compare x.1.1 y.1.1 W
  change ∀ W, Calls _ _ _ W fun e w' => e = .returned (.int .i64 (cfN beK x y)) ∧ w' = W at hc
  have HC := Lib.hid hc
  generalize cfN beK x y = r at *
  clear hb0 hb1 hc
  go_enter Tryz.func98, Tryz.ntmps98
  go_wp2_with fail
  refine (HC.out _).mono ?_
  rintro e w4 ⟨rfl, rfl⟩
  go_wp2_with fail
  go_ret
  exact ⟨rfl, 0, _, by rw [alloc_eq_grow, alloc_eq_grow, grow_grow]; rfl⟩
set_option maxRecDepth 100000 in
set_option maxHeartbeats 2000000 in
theorem sortB98_x (L : List Be) (base : Nat) (v : Value) (w : World) (hO : w.ownsRow base 93 5 v L.length (L.flatMap beEnc)) (hd : L.Pairwise fun x y => x.1.1 ≠ y.1.1) (hl : L.length ≤ 1000000) :
    Calls Tryz.prog 97 #[v, .func (.func 98) #[] #[]] w fun e w' => e = .returned (.tuple #[]) ∧ ∃ L' : List Be, AscK beK L' ∧ L'.Perm L ∧ SlR (fun k => v.ownBlock = some k) w' 5 v L'.length (L'.flatMap beEnc) ∧ Upd (fun k => v.ownBlock = some k) w w' := by
  by_cases h0 : 0 < L.length
  · obtain ⟨g, cap, rfl, hb, hgl, hnc, hcell, hfz⟩ := ownAt hO h0
    have hH : HoldsK beEnc 5 w g 0 L.toArray := holdsK_of beEnc 5 (fun _ => rfl) (fun j hj => ⟨by rw [Nat.zero_add]; exact hcell j hj, hfz _⟩)
    have eg : ∀ args w, (callFunc 98 args).run Tryz.prog w = .ok (.enter 98 args) w := enters_of Tryz.func98 (by kernel_rfl) rfl
    have h := Tryz.slices_SortFunc_f97 5 (fun w => Tryz.isAgg93 w) (fun w => Tryz.sizeOf93 w) beEnc (fun _ => rfl) (fun x u hu => by simp [beEnc] at hu; rcases hu with h | h | h | h | h <;> (subst h; rfl)) (cfN beK) (swo_cfN _) 98 #[] g 0 cap L.toArray w eg (fun m os dk _ x y => cmpB98_x x y _) hH hgl (by simp; omega)
    rw [show L.toArray.size = L.length by simp] at h
    refine h.mono ?_
    rintro e w' ⟨rfl, d', n, os, hp, hs, rfl⟩
    have hsz : d'.size = L.length := by have := hp.1; simpa using this
    obtain ⟨ha, hperm⟩ := sort_asc (d := L.toArray) beK (by rw [show L.toArray.size = L.length by simp]; exact hp) (by rw [show L.toArray.size = L.length by simp]; exact hs) (by simpa using hd)
    have hl' : d'.toList.length = L.length := by simpa using hsz
    refine ⟨rfl, d'.toList, ha, by simpa using hperm, ?_, (upd_sortK beEnc 5 w g 0 n d' os).mono (fun k _ e => by rw [e]; rfl)⟩
    have hH' := holdsK_sortWorldK_c beEnc 5 w g 0 L.toArray d' n os hH hgl (by simpa using hsz)
    rw [hl']
    refine SlR.mk' (by rw [flat_len5, hl']) rfl hnc (fun _ => rfl) (fun j hj => ?_)
    exact (cells_holdsK beEnc 5 (fun _ => rfl) hH' j (by rw [hsz]; exact hj)).1
  · have hl0 : L = [] := List.eq_nil_of_length_eq_zero (by omega)
    subst hl0
    obtain ⟨a, cap, rfl⟩ := own_shape hO
    have h := Tryz.slices_SortFunc_none_f97 (α := Be) a cap (.func (.func 98) #[] #[]) w
    refine h.mono ?_
    rintro e w' ⟨rfl, rfl⟩
    exact ⟨rfl, [], List.Pairwise.nil, List.Perm.refl _, SlR.of_own hO, Upd.refl _ _⟩

end Go.Proofs.YtlkcjmaiahnodaaGreatDoor

/- bindings. -/
namespace Go.Proofs.YtlkcjmaiahnodaaGreatDoor
open Go.RowKit Go.Hw Go
set_option linter.unusedVariables false
set_option linter.unusedSimpArgs false

open Tm Go.Sort Go.Proofs Go.ChangeMaps
theorem infoBd : (Tryz.prog.info? 93).map (fun i => (i.zero, i.size, i.bytes)) = some (some (.agg #[.string ⟨#[]⟩, .string ⟨#[]⟩, .string ⟨#[]⟩, .string ⟨#[]⟩, .slice none 0 0]), 5, 88) := by kernel_rfl
theorem new5 (w : World) (u0 u1 u2 u3 u4 : Value) (t : TypeId) : ∀ (j : Nat) (u : Value), [u0, u1, u2, u3, u4][j]? = some u → (w.alloc (.cells #[u0, u1, u2, u3, u4] t)).cell? ((⟨w.heap.size, 0, none⟩ : Addr).add j) = some u := fun j u hj => by
  match j, hj with
  | 0, hj => simp only [List.getElem?_cons_zero, Option.some.injEq] at hj; subst hj; simp only [Addr.add]; exact cellRow (alloc0 _ _) 0 _ rfl
  | 1, hj => simp at hj; subst hj; simp only [Addr.add]; exact cellRow (alloc0 _ _) 1 _ rfl
  | 2, hj => simp at hj; subst hj; simp only [Addr.add]; exact cellRow (alloc0 _ _) 2 _ rfl
  | 3, hj => simp at hj; subst hj; simp only [Addr.add]; exact cellRow (alloc0 _ _) 3 _ rfl
  | 4, hj => simp at hj; subst hj; simp only [Addr.add]; exact cellRow (alloc0 _ _) 4 _ rfl
def beOf (l : List Be) (n : By) : Be := (l.find? fun x => decide (x.1.1 = n)).getD default
theorem beOf_eq : ∀ {l : List Be} (hd : (l.map fun x => x.1.1).Nodup) {x : Be} (hx : x ∈ l), beOf l x.1.1 = x
  | y :: l, hd, x, hx => by
    rw [List.map_cons, List.nodup_cons] at hd
    unfold beOf
    rw [List.find?_cons]
    rcases List.mem_cons.1 hx with e | hx
    · subst e
      rw [decide_eq_true rfl]
      rfl
    · have hne : ¬ y.1.1 = x.1.1 := fun e => hd.1 (by rw [e]; exact List.mem_map.2 ⟨x, hx, rfl⟩)
      rw [decide_eq_false hne]
      exact beOf_eq hd.2 hx
def selfB (f : Bd) : Bool := isB f.2.2 f.1 f.2.1
structure TbR (S : Nat → Prop) (w : World) (b : Nat) (l : List Be) : Prop where
  mp : MpR (fun s : ByteArray => Value.string s) w b (l.map fun x => (x.1.1, .agg (beEnc x).toArray))
  nd : (l.map fun x => x.1.1).Nodup
  tl : ∀ x ∈ l, TlR S w x.1.2.2.kids (beV x)
structure GaR (n0 : Nat) (w : World) (v : Value) (L : List Be) : Prop where
  own : w.ownsRow n0 93 5 v L.length (L.flatMap beEnc)
  tl : ∀ x ∈ L, ∃ Bx : Nat → Prop, TlR Bx w x.1.2.2.kids (beV x) ∧ ∀ j, Bx j → n0 ≤ j ∧ j < w.heap.size ∧ v.ownBlock ≠ some j
theorem GaR.start (n0 : Nat) (w : World) : GaR n0 w (.slice none 0 0) [] := ⟨⟨rfl, .inl ⟨rfl, rfl⟩⟩, fun x hx => by cases hx⟩
theorem GaR.kept {n0 : Nat} {w w' : World} {v : Value} {L : List Be} {F : Nat → Prop} (h : GaR n0 w v L) (hu : Upd F w w') (hF : ∀ j, n0 ≤ j → j < w.heap.size → ¬ F j) : GaR n0 w' v L :=
  ⟨own_kept h.own hu (fun j hj => hF j (h.own.lt j hj).1 (h.own.lt j hj).2), fun x hx => by
    obtain ⟨Bx, h1, h2⟩ := h.tl x hx
    exact ⟨Bx, h1.kept hu (fun j hj => hF j (h2 j hj).1 (h2 j hj).2.1), fun j hj => ⟨(h2 j hj).1, Nat.lt_of_lt_of_le (h2 j hj).2.1 hu.size, (h2 j hj).2.2⟩⟩⟩
theorem GaR.grow {n0 : Nat} {w w6 w7 : World} {v v' : Value} {L : List Be} {x : Be} {Bx : Nat → Prop} {o : Obj} (h : GaR n0 w v L) (hn : n0 ≤ w.heap.size) (h6 : Ext w w6) (hT : TlR Bx w6 x.1.2.2.kids (beV x)) (hB : ∀ j, Bx j → w.heap.size ≤ j ∧ j < w6.heap.size)
    (hG : Grew n0 93 5 v (L.length + 1) (L.flatMap beEnc ++ beEnc x) (w6.alloc o) w7 v') : GaR n0 w7 v' (L ++ [x]) := by
  have hA := (Upd.refl (fun _ => False) w6).alloc o
  have hU : Upd (fun j => v.ownBlock = some j) w6 w7 := (hA.mono (fun _ _ x => x.elim)).trans hG.upd
  have hbn : ∀ j, v'.ownBlock = some j → v.ownBlock = some j ∨ w6.heap.size ≤ j := fun j e => by
    rcases hG.where_ with h | h
    · rw [h] at e; exact .inl e
    · rw [h] at e; injection e with e; exact .inr (by have := hA.size; omega)
  have hs6 := h6.size
  refine ⟨?_, fun y hy => ?_⟩
  · have ho := hG.own
    rw [List.length_append, List.flatMap_append]
    simpa using ho
  · rcases List.mem_append.1 hy with hy | hy
    · obtain ⟨By_, h1, h2⟩ := h.tl y hy
      refine ⟨By_, ((h1.kept h6 (fun _ _ x => x)).kept hU (fun j hj => (h2 j hj).2.2)), fun j hj => ⟨(h2 j hj).1, Nat.lt_of_lt_of_le (Nat.lt_of_lt_of_le (h2 j hj).2.1 hs6) hU.size, fun e => ?_⟩⟩
      rcases hbn j e with e | e
      · exact (h2 j hj).2.2 e
      · have := (h2 j hj).2.1; omega
    · rw [List.mem_singleton] at hy
      subst hy
      refine ⟨Bx, hT.kept hU (fun j hj e => by have h3 := (h.own.lt j e).2; have h4 := (hB j hj).1; omega), fun j hj => ⟨Nat.le_trans hn (hB j hj).1, Nat.lt_of_lt_of_le (hB j hj).2 hU.size, fun e => ?_⟩⟩
      rcases hbn j e with e | e
      · have h3 := (h.own.lt j e).2; have h4 := (hB j hj).1; omega
      · have := (hB j hj).2; omega
theorem GaR.bn {n0 : Nat} {w w' : World} {v : Value} {L L' : List Be} (h : GaR n0 w v L) (hp : L'.Perm L) (hs : SlR (fun k => v.ownBlock = some k) w' 5 v L'.length (L'.flatMap beEnc)) (hu : Upd (fun k => v.ownBlock = some k) w w') :
    BnR (fun k => n0 ≤ k ∧ k < w'.heap.size) (fun k => n0 ≤ k ∧ k < w'.heap.size) w' v (L'.map (·.1)) := by
  refine ⟨L'.map beV, by simp, ?_, fun i hi => ?_⟩
  · have e : bCells (L'.map (·.1)) (L'.map beV) = L'.flatMap beEnc := by
      clear hs hp
      induction L' with
      | nil => rfl
      | cons x L' ih => rw [List.map_cons, List.map_cons, List.flatMap_cons]; simp only [bCells, List.headD_cons, List.tail_cons, ih, beEnc, List.cons_append, List.nil_append]
    rw [e, List.length_map]
    exact SlR.weaken hs (fun k hk => ⟨(h.own.lt k hk).1, Nat.lt_of_lt_of_le (h.own.lt k hk).2 hu.size⟩)
  · have hi' : i < L'.length := by simpa using hi
    have e1 : Go.Hw.bg (L'.map (·.1)) i = (L'[i]).1 := by
      unfold Go.Hw.bg
      rw [List.getD_eq_getElem?_getD, List.getElem?_map, List.getElem?_eq_getElem hi']
      rfl
    have e2 : ug (L'.map beV) i = beV L'[i] := by
      unfold ug
      rw [List.getD_eq_getElem?_getD, List.getElem?_map, List.getElem?_eq_getElem hi']
      rfl
    rw [e1, e2]
    obtain ⟨Bx, h1, h2⟩ := h.tl _ (hp.mem_iff.1 (List.getElem_mem hi'))
    exact (h1.kept hu (fun j hj => (h2 j hj).2.2)).weaken (fun j hj => ⟨(h2 j hj).1, Nat.lt_of_lt_of_le (h2 j hj).2.1 hu.size⟩)
set_option maxRecDepth 100000 in
set_option maxHeartbeats 2000000 in
theorem bindings_x (l : List Be) (b : Nat) (S : Nat → Prop) (w : World) (hM : TbR S w b l) (hS : ∀ k, S k → k < w.heap.size) (hsz : ∀ x ∈ l, x.1.2.2.size ≤ 100000) (hl : l.length ≤ 1000000) :
    Calls Tryz.prog 65 #[.map (some b)] w fun e w' => ∃ r L, e = .returned r ∧ BnR (fun k => w.heap.size ≤ k ∧ k < w'.heap.size) (fun k => w.heap.size ≤ k ∧ k < w'.heap.size) w' r L ∧ AscK (Prod.fst : Bd → By) L ∧ (∀ f, f ∈ L ↔ ((∃ x ∈ l, x.1 = f) ∧ selfB f = false)) ∧ Ext w w' := by
  obtain ⟨⟨es, clock, hb, hes, hbp, hbc⟩, hnd, htl⟩ := hM
  have HND : Hid ((es.toList.map (·.born)).Nodup) := Lib.hid (by
    rw [List.Nodup, List.pairwise_map]
    exact hbp.imp (fun h e => by omega))
  have HBC := Lib.hid hbc
  have HES := Lib.hid hes
  have HNE : Hid (NmE es.toList (l.map fun x => x.1.1)) := Lib.hid (by
    have := NmE.of hes
    rw [List.map_map] at this
    exact this)
  have HTL := Lib.hid htl
  have HNN := Lib.hid hnd
  have HSS := Lib.hid hS
  have HSZ := Lib.hid hsz
  have HL := Lib.hid hl
  have hrg := run_range_map (P := Tryz.prog) w 98 9 93 b es clock Tryz.underlying98 hb
  have hblt : b < w.heap.size := (Array.getElem?_eq_some_iff.1 hb).1
  have HBL := Lib.hid hblt
  have HB0 := Lib.hid (allocOld hb (.mapIter (some b) clock #[] clock))
  have HR0 := Lib.hid (alloc0 w (.mapIter (some b) clock #[] clock))
  have HE0 := Lib.hid ((Upd.refl (fun _ => False) w).alloc (.mapIter (some b) clock #[] clock))
  have HZ0 : Hid (w.heap.size + 1 ≤ (w.alloc (.mapIter (some b) clock #[] clock)).heap.size) := Lib.hid (by simp)
  clear hes hbp hbc hb hblt hnd htl hS hsz hl
  go_enter Tryz.func65, Tryz.ntmps65
  go_wp2_with fail
  try go_frame
  generalize w.alloc (.mapIter (some b) clock #[] clock) = w7 at *
  clear hrg
  go_loopg [3] (leftOf es #[]).size (fun gk ov wr => ∃ (oa : Option Addr) (oc : Nat) (L : List Be) (D : List By) (seen : Array Nat), ov = .slice oa L.length oc ∧ gk = (leftOf es seen).size ∧ Hid (GaR (w.heap.size + 1) wr (.slice oa L.length oc) L) ∧ Hid (wr.heap[w.heap.size]? = some (.mapIter (some b) clock seen clock)) ∧ Hid (wr.heap[b]? = some (.map es clock)) ∧ Hid (Ext w wr) ∧ Hid (w.heap.size + 1 ≤ wr.heap.size) ∧ Hid (SnI es.toList seen D) ∧ Hid (L.map (·.1) = (D.map fun n => (beOf l n).1).filter fun f => !selfB f))
  case atStart => exact ⟨none, 0, [], [], #[], rfl, rfl, Lib.hid (GaR.start _ _), HR0, HB0, HE0, HZ0, Lib.hid (SnI.start _), Lib.hid rfl⟩
  case round =>
    clear HR0 HB0 HE0 HZ0
    obtain ⟨oa, oc, L, D, seen, rfl, rfl, HG, HRR, HBB, HE, HSR, HV, HLF⟩ := hrel
    rcases run_next_at (P := Tryz.prog) wr 0 w.heap.size b clock clock seen es clock HRR.out HBB.out (fun x hx => HBC.out x hx) (Nat.le_refl _) with ⟨h0, hrun⟩ | ⟨e, he, w1, hw1, hrun⟩
    · have hnx : ∀ ty, (Instr.next (.pointer (some ⟨w.heap.size, 0, none⟩)) false ty).run Tryz.prog wr = _ := fun _ => hrun
      have hfin := HV.out.fin HNE.out h0
      have hLD : (D.map fun n => (beOf l n).1.1) = D := by
        have : ∀ n ∈ D, (beOf l n).1.1 = n := fun n hn => by
          obtain ⟨x, hx, e⟩ := List.mem_map.1 ((hfin n).1 hn)
          rw [← e, beOf_eq HNN.out hx]
        rw [List.map_congr_left this, List.map_id']
      have hdist : L.Pairwise fun x y => x.1.1 ≠ y.1.1 := by
        have h1 : ((D.map fun n => (beOf l n).1).filter fun f => !selfB f).Pairwise (fun f g => f.1 ≠ g.1) := by
          refine List.Pairwise.filter _ ?_
          rw [List.pairwise_map]
          have h2 := HV.out.dn
          rw [← hLD, List.Nodup, List.pairwise_map] at h2
          exact h2
        rw [← HLF.out, List.pairwise_map] at h1
        exact h1
      have hll : L.length ≤ 1000000 := by
        have h1 : (L.map (·.1)).length ≤ D.length := by
          rw [HLF.out]
          refine Nat.le_trans (List.length_filter_le _ _) ?_
          rw [List.length_map]
          exact Nat.le_refl _
        have h2 := HV.out.dn.length_le_of_subset (fun n hn => (hfin n).1 hn)
        rw [List.length_map] at h1 h2
        have := HL.out
        omega
      have hmem : ∀ f, f ∈ L.map (·.1) ↔ ((∃ x ∈ l, x.1 = f) ∧ selfB f = false) := fun f => by
        rw [HLF.out, List.mem_filter, List.mem_map]
        constructor
        · rintro ⟨⟨n, hn, e⟩, h2⟩
          obtain ⟨x, hx, e2⟩ := List.mem_map.1 ((hfin n).1 hn)
          refine ⟨⟨x, hx, ?_⟩, by simpa using h2⟩
          rw [← e, ← e2, beOf_eq HNN.out hx]
        · rintro ⟨⟨x, hx, e⟩, h2⟩
          refine ⟨⟨x.1.1, (hfin _).2 (List.mem_map.2 ⟨x, hx, rfl⟩), by rw [beOf_eq HNN.out hx, e]⟩, by rw [h2]; rfl⟩
      have HST := Lib.hid (fun W (hW : Ext wr W) => sortB135_x L (w.heap.size + 1) (.slice oa L.length oc) W (own_kept HG.out.own hW (fun _ _ h => h)) hdist hll)
      have HFN := Lib.hid hmem
      clear hfin hll h0 hLD hdist hmem
      go_wp2_with fail
      refine (HST.out _ (Upd.refl _ _)).mono ?_
      rintro e w8 ⟨rfl, L', ha, hperm, hF, hu⟩
      have HBN := Lib.hid (HG.out.bn hperm hF hu)
      have HAS : Hid (AscK (Prod.fst : Bd → By) (L'.map (·.1))) := Lib.hid (by
        unfold AscK at ha ⊢
        rw [List.pairwise_map]
        exact ha)
      have HMM : Hid (∀ f, f ∈ L'.map (·.1) ↔ ((∃ x ∈ l, x.1 = f) ∧ selfB f = false)) := Lib.hid (fun f => by rw [(hperm.map (·.1)).mem_iff]; exact HFN.out f)
      have HE8 : Hid (Ext w w8) := Lib.hid (HE.out.trans' hu (fun j hj e => by have h1 := (HG.out.own.lt j e).1; omega))
      clear hnx hrun ha hperm hF hu HST
      go_wp2_with fail
      go_ret
      exact ⟨_, _, rfl, HBN.out.weaken (fun k hk => ⟨by omega, hk.2⟩) (fun k hk => ⟨by omega, hk.2⟩), HAS.out, HMM.out, HE8.out⟩
    · have hml := mem_left he
      obtain ⟨nm0, hnm0, hk0⟩ := HNE.out.name hml.1
      obtain ⟨x, hx, hkv⟩ : ∃ x ∈ l, (Value.string x.1.1, Value.agg (beEnc x).toArray) = (e.key, e.val) := by
        have h1 : (e.key, e.val) ∈ es.toList.map (fun e => (e.key, e.val)) := List.mem_map.2 ⟨e, hml.1, rfl⟩
        rw [HES.out, List.map_map] at h1
        obtain ⟨x, hx, h2⟩ := List.mem_map.1 h1
        exact ⟨x, hx, h2⟩
      have hk : e.key = .string x.1.1 := by injection hkv with h1 _; exact h1.symm
      have hvv : e.val = .agg (beEnc x).toArray := by injection hkv with _ h1; exact h1.symm
      have hxl := HTL.out x hx
      have hxz := HSZ.out x hx
      have hbx := beOf_eq HNN.out hx
      have hrw : w1.heap[w.heap.size]? = some (.mapIter (some b) clock seen clock) := by rcases hw1 with h | h <;> (rw [h]; exact HRR.out)
      have hrb : w1.heap[b]? = some (.map es clock) := by rcases hw1 with h | h <;> (rw [h]; exact HBB.out)
      have hu1 : Upd (fun j => j = w.heap.size) wr (Go.ChangeMaps.setBlock w1 w.heap.size (.mapIter (some b) clock (seen.push e.born) clock)) := by
        have := upd_setBlock w1 w.heap.size (.mapIter (some b) clock (seen.push e.born) clock)
        rcases hw1 with h | h
        · rw [h] at this ⊢; exact this
        · rw [h] at this ⊢; exact this.ofDrew
      have hr2 := heap_setBlock (o' := .mapIter (some b) clock (seen.push e.born) clock) hrw
      rw [hk, hvv] at hrun
      generalize Go.ChangeMaps.setBlock w1 w.heap.size (.mapIter (some b) clock (seen.push e.born) clock) = wN at *
      have HBN := Lib.hid (hu1.heap HBB.out (by have := HBL.out; omega))
      have HRN := Lib.hid hr2
      have hen := run_entry_at (P := Tryz.prog) wN w.heap.size b clock seen es clock e hr2 HBN.out hml.1 HND.out
      rw [hk, hvv] at hen
      have hnx : ∀ ty, (Instr.next (.pointer (some ⟨w.heap.size, 0, none⟩)) false ty).run Tryz.prog wr = _ := fun _ => hrun
      have HGN := Lib.hid (HG.out.kept hu1 (fun j hj _ e => by omega))
      have HEN : Hid (Ext w wN) := Lib.hid (HE.out.trans' hu1 (fun j hj e => by omega))
      have HVN := Lib.hid (HV.out.next HNE.out HNN.out HND.out hml.1 hml.2 hk)
      have HLT := Lib.hid (left_shrinks es seen e he)
      have HSN : Hid (w.heap.size + 1 ≤ wN.heap.size) := Lib.hid (Nat.le_trans HSR.out hu1.size)
      have hll : L.length ≤ 1000000 := by
        have h1 : (L.map (·.1)).length ≤ D.length := by
          rw [HLF.out]
          refine Nat.le_trans (List.length_filter_le _ _) ?_
          rw [List.length_map]
          exact Nat.le_refl _
        have h2 := HV.out.dn.length_le_of_subset (HV.out.sub' HNE.out)
        rw [List.length_map] at h1 h2
        have := HL.out
        omega
      have HLL := Lib.hid hll
      clear hml hk hvv hrw hrb hu1 hr2 he hw1 hkv hnm0 hk0 hll
      obtain ⟨⟨nm, so, t⟩, xa, xm, xc⟩ := x
      obtain rfl : xm = t.kids.length := by
        obtain ⟨a, c, h⟩ := hxl.shape
        injection h
      have HXL := Lib.hid hxl
      have HXZ := Lib.hid hxz
      have HBX := Lib.hid hbx
      clear hxl hxz hbx
      simp only [beEnc, beV] at hrun hen HXL HBX
      have hb5 := alloc0 wN (.cells #[.string nm, .string so, .string t.name, .string t.sort, .slice xa t.kids.length xc] 93)
      have HB5 := Lib.hid hb5
      have HE5 := Lib.hid (HEN.out.alloc (.cells #[.string nm, .string so, .string t.name, .string t.sort, .slice xa t.kids.length xc] 93))
      have hIS := fun W => is_x t xa xc nm so W
      dsimp only [tV] at hIS
      have HIS := Lib.hid hIS
      obtain ⟨sf, hsf⟩ : ∃ b, selfB (nm, so, t) = b := ⟨_, rfl⟩
      have HSF := Lib.hid hsf
      have hsf2 : isB t nm so = sf := hsf
      rw [hsf2] at HIS
      have HEX := Lib.hid ((Upd.refl (fun _ => False) wN).alloc (.cells #[.string nm, .string so, .string t.name, .string t.sort, .slice xa t.kids.length xc] 93))
      clear hb5 hIS hsf hsf2
      go_wp2_with (fail)
      refine (HIS.out _).mono ?_
      rintro e2 w5 ⟨rfl, hw5⟩
      have HE6 := Lib.hid (HE5.out.trans hw5)
      have HX5 := Lib.hid (HEX.out.trans hw5)
      have HB6 := Lib.hid (hw5.heap HB5.out (fun h => h))
      have HR6 := Lib.hid (HX5.out.heap HRN.out (fun h => h))
      have HM6 := Lib.hid (HX5.out.heap HBN.out (fun h => h))
      have HG6 := Lib.hid (HGN.out.kept HX5.out (fun _ _ _ h => h))
      have HS6 : Hid (w.heap.size + 1 ≤ w5.heap.size) := Lib.hid (Nat.le_trans HSN.out HX5.out.size)
      clear hw5 hnx hrun hen HIS HGN HBN HRN HEN HE5 HB5 HEX HSN
      cases sf with
      | true =>
        have HLF' : Hid (L.map (·.1) = ((D ++ [nm]).map fun n => (beOf l n).1).filter fun f => !selfB f) := Lib.hid (by
          rw [List.map_append, List.filter_append, ← HLF.out, List.map_singleton, HBX.out]
          simp [HSF.out])
        go_wp2_with fail
        have hlt := HLT.out
        go_roundg (leftOf es (seen.push e.born)).size
        case measure => exact hlt
        case rel => exact ⟨_, _, L, D ++ [nm], _, rfl, rfl, HG6, HR6, HM6, HE6, HS6, HVN, HLF'⟩
      | false =>
        have b0 := cellRow HB6.out 0 (.string nm) rfl
        have b1 := cellRow HB6.out 1 (.string so) rfl
        have b2 := cellRow HB6.out 2 (.string t.name) rfl
        have b3 := cellRow HB6.out 3 (.string t.sort) rfl
        have b4 := cellRow HB6.out 4 (.slice xa t.kids.length xc) rfl
        obtain ⟨nb, hnb⟩ : ∃ n, wN.heap.size = n := ⟨_, rfl⟩
        rw [hnb] at b0 b1 b2 b3 b4 ⊢
        clear hnb
        have HCP := Lib.hid (fun W (hW : Ext w5 W) => ucopied_x t _ S W ⟨xa, xc, rfl, HXL.out.ext (HE6.out.trans hW)⟩ (fun j hj => Nat.lt_of_lt_of_le (HSS.out j hj) (Nat.le_trans HE6.out.size hW.size)) HXZ.out)
        dsimp only [tV] at HCP
        have HW5 : Hid (Ext w5 w5) := Lib.hid (Upd.refl _ _)
        obtain ⟨iT, hi, hz0, hz1, hz2⟩ := info_parts infoBd
        go_wp2_with fail
        go_region_law (first
          | (refine step_append_at _ (.tmp 20) (.tmp 29) 27 rfl (w.heap.size + 1) 93 iT (.agg #[.string ⟨#[]⟩, .string ⟨#[]⟩, .string ⟨#[]⟩, .string ⟨#[]⟩, .slice none 0 0]) 5 88 Tryz.underlying27 hi hz0 hz1 hz2 rfl (by decide) _ _ _ rfl HOW6.out _ 1 1 [Value.string nm, .string so, .string t.name, .string t.sort, .slice ya t.kids.length yc] rfl rfl HNEW.out HONE.out HLM.out.1 HLM.out.2.1 HLM.out.2.2 ?_; intro v7 w7 hG7; obtain ⟨a7, c7, hv7⟩ := own_shape hG7.own; subst hv7; have HG7 := Lib.hid hG7; clear hG7)
          | (go_simp; refine (HCP.out w5.drew HW5.out.drew).mono ?_; rintro e3 w6 ⟨r, Bx, rfl, hT6, hb6, hw6⟩; obtain ⟨ya, yc, hry⟩ := TlO.shape hT6; subst hry; have HW6 : Hid (Ext w5 w6) := Lib.hid (((Upd.refl (fun _ => False) w5).drewN' 1).trans hw6); have HT6 := Lib.hid hT6.read; have HBX6 : Hid (∀ j, Bx j → w5.heap.size ≤ j ∧ j < w6.heap.size) := Lib.hid hb6; have HOW6 : Hid ((w6.alloc (.cells #[.string nm, .string so, .string t.name, .string t.sort, .slice ya t.kids.length yc] 93)).ownsRow (w.heap.size + 1) 93 5 (.slice oa L.length oc) L.length (L.flatMap beEnc)) := Lib.hid ((own_kept HG6.out.own HW6.out (fun _ _ h => h)).alloc _); have HNEW : Hid (∀ (j : Nat) (u : Value), [Value.string nm, .string so, .string t.name, .string t.sort, .slice ya t.kids.length yc][j]? = some u → (w6.alloc (.cells #[.string nm, .string so, .string t.name, .string t.sort, .slice ya t.kids.length yc] 93)).cell? ((⟨w6.heap.size, 0, none⟩ : Addr).add j) = some u) := Lib.hid (new5 w6 _ _ _ _ _ 93); have HONE : Hid (∀ u ∈ [Value.string nm, .string so, .string t.name, .string t.sort, .slice ya t.kids.length yc], u.oneCell' = true) := Lib.hid (fun u hu => by simp at hu; rcases hu with h | h | h | h | h <;> (subst h; rfl)); have HLM : Hid (L.length + 1 ≤ maxLen ∧ (L.length + 1) * 88 ≤ 140737488355328 ∧ w.heap.size + 1 ≤ (w6.alloc (.cells #[.string nm, .string so, .string t.name, .string t.sort, .slice ya t.kids.length yc] 93)).heap.size) := Lib.hid ⟨by unfold maxLen; have := HLL.out; omega, by have := HLL.out; omega, by have h1 := HW6.out.size; have h2 := HS6.out; simp; omega⟩; have d0 := HW6.out.cell b0 (fun h => h); have d1 := HW6.out.cell b1 (fun h => h); have d2 := HW6.out.cell b2 (fun h => h); have d3 := HW6.out.cell b3 (fun h => h); have d4 := HW6.out.cell b4 (fun h => h); clear hT6 hb6 hw6 HCP))
        all_goals
          go_wp2_with fail
          try go_frame
          have hlen : (L ++ [(((nm, so, t), ya, t.kids.length, yc) : Be)]).length = L.length + 1 := by simp
          have HG8 := Lib.hid (HG6.out.grow HS6.out HW6.out (x := ((nm, so, t), ya, t.kids.length, yc)) HT6.out HBX6.out HG7.out)
          have HU8 : Hid (Upd (fun j => (Value.slice oa L.length oc).ownBlock = some j) w5 w7) := Lib.hid (((HW6.out.alloc (.cells #[.string nm, .string so, .string t.name, .string t.sort, .slice ya t.kids.length yc] 93)).mono (fun _ _ x => x.elim)).trans HG7.out.upd)
          have hol : ∀ j, (Value.slice oa L.length oc).ownBlock = some j → w.heap.size + 1 ≤ j := fun j e => (HG6.out.own.lt j e).1
          have HE8 : Hid (Ext w w7) := Lib.hid (HE6.out.trans' HU8.out (fun j hj e => by have h1 := hol j e; omega))
          have HR8 := Lib.hid (HU8.out.heap HR6.out (fun e => by have h1 := hol _ e; omega))
          have HM8 := Lib.hid (HU8.out.heap HM6.out (fun e => by have h1 := hol _ e; have := HBL.out; omega))
          have HS8 : Hid (w.heap.size + 1 ≤ w7.heap.size) := Lib.hid (Nat.le_trans HS6.out HU8.out.size)
          have HLF' : Hid ((L ++ [(((nm, so, t), ya, t.kids.length, yc) : Be)]).map (·.1) = ((D ++ [nm]).map fun n => (beOf l n).1).filter fun f => !selfB f) := Lib.hid (by
            rw [List.map_append, List.map_append, List.filter_append, ← HLF.out, List.map_singleton, List.map_singleton, HBX.out]
            simp [HSF.out])
          rw [← hlen] at HG8 ⊢
          have hlt := HLT.out
          clear hol hi hz0 hz1 hz2
          go_roundg (leftOf es (seen.push e.born)).size
          case measure => exact hlt
          case rel => exact ⟨a7, c7, _, D ++ [nm], _, rfl, rfl, HG8, HR8, HM8, HE8, HS8, HVN, HLF'⟩

end Go.Proofs.YtlkcjmaiahnodaaGreatDoor

/- Tables; the pure part of Unify. -/
namespace Go.Proofs.YtlkcjmaiahnodaaGreatDoor
open Go.RowKit Go.Hw Go
set_option linter.unusedVariables false
set_option linter.unusedSimpArgs false

open Tm Go.Sort Go.Proofs Go.ChangeMaps
def putB : List Be → Be → List Be
  | [], x => [x]
  | y :: l, x => if y.1.1 = x.1.1 then x :: l else y :: putB l x
theorem putB_aput : ∀ (l : List Be) (x : Be), (putB l x).map (fun x => (x.1.1, Value.agg (beEnc x).toArray)) = aput (l.map fun x => (x.1.1, Value.agg (beEnc x).toArray)) x.1.1 (.agg (beEnc x).toArray)
  | [], x => rfl
  | y :: l, x => by
    unfold putB
    rw [List.map_cons]
    unfold aput
    by_cases h : y.1.1 = x.1.1
    · rw [if_pos h, if_pos h, List.map_cons]
    · rw [if_neg h, if_neg h, List.map_cons, putB_aput l x]
theorem putB_mem : ∀ {l : List Be} {x : Be} (hd : (l.map fun x => x.1.1).Nodup) (z : Be), z ∈ putB l x ↔ z = x ∨ (z ∈ l ∧ z.1.1 ≠ x.1.1)
  | [], x, _, z => by unfold putB; simp
  | y :: l, x, hd, z => by
    rw [List.map_cons, List.nodup_cons] at hd
    unfold putB
    by_cases h : y.1.1 = x.1.1
    · rw [if_pos h, List.mem_cons, List.mem_cons]
      constructor
      · rintro (e | e)
        · exact .inl e
        · exact .inr ⟨.inr e, fun e2 => hd.1 (by rw [h, ← e2]; exact List.mem_map.2 ⟨z, e, rfl⟩)⟩
      · rintro (e | ⟨e | e, e2⟩)
        · exact .inl e
        · subst e; exact absurd h e2
        · exact .inr e
    · rw [if_neg h, List.mem_cons, List.mem_cons, putB_mem hd.2 z]
      constructor
      · rintro (e | e | ⟨e, e2⟩)
        · subst e; exact .inr ⟨.inl rfl, h⟩
        · exact .inl e
        · exact .inr ⟨.inr e, e2⟩
      · rintro (e | ⟨e | e, e2⟩)
        · exact .inr (.inl e)
        · exact .inl e
        · exact .inr (.inr ⟨e, e2⟩)
theorem putB_names_in : ∀ {l : List Be} {x : Be}, x.1.1 ∈ (l.map fun x => x.1.1) → (putB l x).map (fun x => x.1.1) = l.map fun x => x.1.1
  | y :: l, x, h => by
    unfold putB
    by_cases e : y.1.1 = x.1.1
    · rw [if_pos e, List.map_cons, List.map_cons, e]
    · rw [if_neg e, List.map_cons, List.map_cons, putB_names_in (by
        rw [List.map_cons, List.mem_cons] at h
        rcases h with h | h
        · exact absurd h.symm e
        · exact h)]
theorem putB_names_out : ∀ {l : List Be} {x : Be}, x.1.1 ∉ (l.map fun x => x.1.1) → (putB l x).map (fun x => x.1.1) = (l.map fun x => x.1.1) ++ [x.1.1]
  | [], x, h => rfl
  | y :: l, x, h => by
    rw [List.map_cons, List.mem_cons, not_or] at h
    unfold putB
    rw [if_neg (fun e => h.1 e.symm), List.map_cons, List.map_cons, putB_names_out h.2]
    rfl
theorem putB_nodup {l : List Be} {x : Be} (hd : (l.map fun x => x.1.1).Nodup) : ((putB l x).map fun x => x.1.1).Nodup := by
  by_cases h : x.1.1 ∈ (l.map fun x => x.1.1)
  · rw [putB_names_in h]; exact hd
  · rw [putB_names_out h, List.nodup_append]
    exact ⟨hd, by simp, fun a ha b hb e => by rw [List.mem_singleton] at hb; subst hb; subst e; exact h ha⟩
def vaBe (v : Vd) : Be := ((v.1, v.2, .mk v.1 v.2 []), none, 0, 0)
def tbOf (vs : List Vd) : List Be := vs.foldl (fun l v => putB l (vaBe v)) []
theorem tbOf_snoc (vs : List Vd) (v : Vd) : tbOf (vs ++ [v]) = putB (tbOf vs) (vaBe v) := by unfold tbOf; rw [List.foldl_append]; rfl
theorem tbOf_spec : ∀ (vs : List Vd), (∀ v ∈ vs, ∀ u ∈ vs, v.1 = u.1 → v = u) → ((tbOf vs).map fun x => x.1.1).Nodup ∧ ∀ z, z ∈ tbOf vs ↔ ∃ v ∈ vs, z = vaBe v := by
  intro vs
  suffices H : ∀ n, ∀ vs : List Vd, vs.length = n → (∀ v ∈ vs, ∀ u ∈ vs, v.1 = u.1 → v = u) → ((tbOf vs).map fun x => x.1.1).Nodup ∧ ∀ z, z ∈ tbOf vs ↔ ∃ v ∈ vs, z = vaBe v from H _ vs rfl
  intro n
  induction n with
  | zero =>
    intro vs h _
    rw [List.eq_nil_of_length_eq_zero h]
    exact ⟨List.nodup_nil, fun z => by unfold tbOf; simp⟩
  | succ n ih =>
    intro vs h hc
    obtain ⟨ws, v, rfl⟩ : ∃ ws v, vs = ws ++ [v] := ⟨vs.dropLast, vs.getLast (by intro e; rw [e] at h; cases h), (List.dropLast_concat_getLast _).symm⟩
    obtain ⟨h1, h2⟩ := ih ws (by simpa using h) (fun a ha b hb => hc a (List.mem_append_left _ ha) b (List.mem_append_left _ hb))
    rw [tbOf_snoc]
    refine ⟨putB_nodup h1, fun z => ?_⟩
    rw [putB_mem h1]
    constructor
    · rintro (e | ⟨e, e2⟩)
      · exact ⟨v, List.mem_append_right _ (List.mem_singleton.2 rfl), e⟩
      · obtain ⟨u, hu, e3⟩ := (h2 z).1 e
        exact ⟨u, List.mem_append_left _ hu, e3⟩
    · rintro ⟨u, hu, e⟩
      by_cases he : u.1 = v.1
      · have := hc u hu v (List.mem_append_right _ (List.mem_singleton.2 rfl)) he
        rw [this] at e
        exact .inl e
      · rcases List.mem_append.1 hu with hu | hu
        · exact .inr ⟨(h2 z).2 ⟨u, hu, e⟩, by rw [e]; exact he⟩
        · rw [List.mem_singleton] at hu
          rw [hu] at he
          exact absurd rfl he
theorem left_size {es es' : Array MapEntry} (h : es'.toList.map (·.born) = es.toList.map (·.born)) (seen : Array Nat) : (leftOf es' seen).size = (leftOf es seen).size := by
  have key : ∀ es : Array MapEntry, (leftOf es seen).size = ((es.toList.map (·.born)).filter fun b => !seen.contains b).length := fun es => by
    unfold leftOf
    rw [← Array.length_toList, Array.toList_filter, List.filter_map, List.length_map]
    rfl
  rw [key, key, h]
theorem key_born {es es' : List MapEntry} (h1 : es.map (·.key) = es'.map (·.key)) (h2 : es.map (·.born) = es'.map (·.born)) : es.map (fun e => (e.key, e.born)) = es'.map (fun e => (e.key, e.born)) := by
  have h : ∀ es : List MapEntry, es.map (fun e => (e.key, e.born)) = (es.map (·.key)).zip (es.map (·.born)) := fun es => by
    induction es with
    | nil => rfl
    | cons e es ih => simp only [List.map_cons, List.zip_cons_cons, ih]
  rw [h, h, h1, h2]
theorem MpR.upd {P : Program} {et t kt : TypeId} (K : KeyEnc P kt (fun s : ByteArray => Value.string s)) (ht : P.underlying t = some (.map kt et)) {w : World} {b : Nat} {es : Array MapEntry} {cl : Nat} {l : List (By × Value)} (h1 : w.heap[b]? = some (.map es cl)) (h2 : es.toList.map (fun e => (e.key, e.val)) = l.map (fun p => (Value.string p.1, p.2))) (k : By) (v : Value) (hk : k ∈ l.map (·.1)) :
    ∃ w' es', (Instr.mapUpdate t (.map (some b)) (.string k) v).run P w = .ok () w' ∧ w'.heap[b]? = some (.map es' cl) ∧ es'.toList.map (fun e => (e.key, e.val)) = (aput l k v).map (fun p => (Value.string p.1, p.2)) ∧ es'.toList.map (·.born) = es.toList.map (·.born) ∧ Upd (fun j => j = b) w w' := by
  have hf := K.find k es.toList l w h2
  have hc := K.check false k w
  have hblt := (Array.getElem?_eq_some_iff.1 h1).1
  have hupd : ∀ o, Upd (fun j => j = b) w { w with heap := w.heap.setIfInBounds b o } := fun o =>
    ⟨rfl, rfl, rfl, by simp, fun i hi hF => by simp [Ne.symm (show i ≠ b from hF)]⟩
  rw [aput_idx]
  generalize hx : (l.findIdx? fun p => decide (p.1 = k)) = x at *
  cases x with
  | none =>
    rw [List.findIdx?_eq_none_iff] at hx
    obtain ⟨p, hp, e⟩ := List.mem_map.1 hk
    have := hx p hp
    rw [e] at this
    simp at this
  | some i =>
    have hi : i < l.length := by
      rw [List.findIdx?_eq_some_iff_getElem] at hx
      exact hx.1
    have hlen : es.size = l.length := by
      have := congrArg List.length h2
      simpa using this
    have hki : (l[i]'hi).1 = k := by
      rw [List.findIdx?_eq_some_iff_getElem] at hx
      simpa using hx.2.1
    have hes : (es[i]'(by omega)).key = .string k := by
      have h5 : (es.toList.map (fun e => (e.key, e.val)))[i]? = (l.map (fun p => (Value.string p.1, p.2)))[i]? := by rw [h2]
      rw [List.getElem?_map, List.getElem?_map, Array.getElem?_toList, Array.getElem?_eq_getElem (show i < es.size by omega), List.getElem?_eq_getElem hi] at h5
      simp only [Option.map_some] at h5
      have h6 := congrArg Prod.fst (Option.some.inj h5)
      simp only at h6
      rw [h6, hki]
    have hst : (Instr.keyThatStays (((es[i]?).map (·.key)).getD (.string k)) (.string k)).run P w = .ok (.string k) w := by
      rw [Array.getElem?_eq_getElem (show i < es.size by omega)]
      simp only [Option.map_some, Option.getD_some, hes]
      unfold Instr.keyThatStays
      rw [if_pos (K.same k)]
      rfl
    refine ⟨_, es.modify i fun e => { e with key := .string k, val := v }, by simp [Instr.mapUpdate, run_underlying ht, MapKept.run_getObj_map h1, hc, hf, hst, MapKept.run_setObj_map _ h1, Result.andThen]; rfl, by simp [hblt], ?_, ?_, hupd _⟩
    · rw [Array.toList_modify]
      apply List.ext_getElem?
      intro j
      have h5 : (es.toList.map (fun e => (e.key, e.val)))[j]? = (l.map (fun p => (Value.string p.1, p.2)))[j]? := by rw [h2]
      simp only [List.getElem?_map, List.getElem?_modify, List.getElem?_set] at h5 ⊢
      by_cases e : i = j
      · subst e
        rw [if_pos rfl, if_pos hi]
        rw [Array.getElem?_toList, Array.getElem?_eq_getElem (show i < es.size by omega)]
        simp
      · rw [if_neg e]
        cases hq : es.toList[j]? with
        | none => rw [hq] at h5; simpa using h5
        | some u => rw [hq] at h5; simpa [e] using h5
    · rw [Array.toList_modify]
      apply List.ext_getElem?
      intro j
      simp only [List.getElem?_map, List.getElem?_modify]
      cases es.toList[j]? with
      | none => rfl
      | some u => simp only [Option.map_some]; split <;> rfl
theorem Ur.kept {T : List Nr} {ad : Nat → Nat × Nat} {S F : Nat → Prop} {CT UT : TypeId} {bv bn ub : Nat} {bk : List Nat} {st : St} {w w' : World} (h : Ur T ad S CT UT bv bn ub bk st w) (hu : Upd F w w') (hF : ∀ k, (Fb bv bn bk k ∨ S k ∨ k = ub) → ¬ F k) : Ur T ad S CT UT bv bn ub bk st w' :=
  ⟨h.us.ext hu (fun k hk => hF k (.inl hk)), h.nd.kept hu (fun k hk => hF k (.inr (.inl hk))), hu.heap h.u (hF _ (.inr (.inr rfl))), h.un, fun k hk => ⟨Nat.lt_of_lt_of_le (h.sn k hk).1 hu.size, (h.sn k hk).2⟩⟩
theorem Us'.outside {T : List Nr} {ad : Nat → Nat × Nat} {S F : Nat → Prop} {CT UT : TypeId} {bv bn ub : Nat} {bk bk' : List Nat} {st' : St} {w w' w'' : World} (h : Us' T ad S CT UT bv bn ub bk bk' st' w w') (hu : Upd F w' w'') (hF : ∀ k, (Fb bv bn bk' k ∨ S k ∨ k = ub) → ¬ F k) (hl : ∀ j, j < w.heap.size → ¬ F j) : Us' T ad S CT UT bv bn ub bk bk' st' w w'' :=
  ⟨Ur.kept h.ur hu hF, h.upd.trans' hu (fun j hj hf => absurd hf (hl j hj)), h.pre, h.new⟩
theorem drop_vg (l : List Vd) (k : Nat) (h : k < l.length) : l.drop k = vg l k :: l.drop (k + 1) := by
  rw [List.drop_eq_getElem_cons h]
  unfold vg
  rw [List.getD_eq_getElem?_getD, List.getElem?_eq_getElem h]
  rfl
theorem take_vg (l : List Vd) (k : Nat) (h : k < l.length) : l.take (k + 1) = l.take k ++ [vg l k] := by
  rw [List.take_add_one]
  unfold vg
  rw [List.getD_eq_getElem?_getD, List.getElem?_eq_getElem h]
  rfl
def acV (T : List Nr) (F : Nat) : St → List Vd → Option (St × Bool)
  | st, [] => some (st, true)
  | st, v :: vs => match varF F st v.1 v.2 with
    | none => none
    | some (st1, c) => match acG T F st1 c with
      | none => none
      | some (st2, false) => some (st2, false)
      | some (st2, true) => acV T F st2 vs
def uRes (T : List Nr) (F : Nat) (vs : List Vd) : Option (Option St) := match unF T F ⟨[], [], []⟩ 0 1 with
  | none => none
  | some (_, false) => some none
  | some (st1, true) => match acV T F st1 vs with
    | none => none
    | some (_, false) => some none
    | some (st2, true) => match classF T F st2 0 with
      | none => none
      | some (st3, c) => match acG T F st3 c with
        | none => none
        | some (_, false) => some none
        | some (st4, true) => some (some st4)

end Go.Proofs.YtlkcjmaiahnodaaGreatDoor

/- Unify. -/
namespace Go.Proofs.YtlkcjmaiahnodaaGreatDoor
open Go.RowKit Go.Hw Go
set_option linter.unusedVariables false
set_option linter.unusedSimpArgs false

open Tm Go.Sort Go.Proofs Go.ChangeMaps
set_option maxRecDepth 100000 in
set_option maxHeartbeats 2000000 in
theorem Unify_x {T : List Nr} {ad : Nat → Nat × Nat} {S : Nat → Prop} (F : Nat) (a b : Tm) (aa ba : Option Addr) (ac bc : Nat) (w : World) (htab : AscT w)
    (hA : TmR (fun k => k < w.heap.size) w a (tV a (.slice aa a.kids.length ac))) (hB : TmR (fun k => k < w.heap.size) w b (tV b (.slice ba b.kids.length bc))) (hsa : a.size ≤ 100000) (hsb : b.size ≤ 100000) (ha : wf nmB a = true) (hb : wf nmB b = true)
    (hc : ∀ v ∈ (varsT a ++ varsT b), ∀ u ∈ (varsT a ++ varsT b), v.1 = u.1 → v = u) (hso : ∀ v ∈ (varsT a ++ varsT b), v.2 ≠ nul) (had0 : ad 0 = (w.heap.size, 0)) (had1 : ad 1 = (w.heap.size + 1, 0))
    (hN : ∀ W, Ext w W → W.heap[w.heap.size]? = some (.cells #[.string a.name, .string a.sort, .slice aa a.kids.length ac] 24 (0, 0)) → W.heap[w.heap.size + 1]? = some (.cells #[.string b.name, .string b.sort, .slice ba b.kids.length bc] 24 (0, 0)) → NdR T ad S W) (hS : ∀ k, S k → k < w.heap.size + 2)
    (hTB : ∀ (i : Nat) (r : Nr), T[i]? = some r → r.ks.length ≤ 1000000) (R : Option St) (hR : uRes T F (varsT a ++ varsT b) = some R)
    (τ : Vd → Tm) (hfin : ∀ st, R = some st → ∀ v ∈ (varsT a ++ varsT b), ∃ c C, (fnd st.vs v.1).isSome = true ∧ varF F st v.1 v.2 = some (st, c) ∧ st.cs[c]? = some C ∧ C.sz ≤ 1000 ∧ C.dp ≤ 60 ∧ vaG T st F c = some (τ v) ∧ (τ v).size ≤ 100000) :
    Calls Tryz.prog 17 #[tV a (.slice aa a.kids.length ac), tV b (.slice ba b.kids.length bc)] w fun e w' => ((R = none ∧ e = .returned (.tuple #[.slice none 0 0, .int .i64 12])) ∨ (R ≠ none ∧ ∃ r L, e = .returned (.tuple #[r, .int .i64 0]) ∧ BnR (fun k => w.heap.size ≤ k ∧ k < w'.heap.size) (fun k => w.heap.size ≤ k ∧ k < w'.heap.size) w' r L ∧ AscK (Prod.fst : Bd → By) L ∧ (∀ f, f ∈ L ↔ ((∃ v ∈ (varsT a ++ varsT b), f = (v.1, v.2, τ v)) ∧ selfB f = false)))) ∧ Ext w w' := by
  have HA := Lib.hid hA
  have HB := Lib.hid hB
  have HAT := Lib.hid htab
  have HC := Lib.hid hc
  have HSO := Lib.hid hso
  have HFIN := Lib.hid hfin
  have HTB := Lib.hid hTB
  have HSA := Lib.hid (And.intro hsa hsb)
  have HWF := Lib.hid (And.intro ha hb)
  have HSS := Lib.hid hS
  have HNN := Lib.hid hN
  have HAD := Lib.hid (And.intro had0 had1)
  have HRR := Lib.hid hR
  have HGV := Lib.hid (fun W (hW : Ext w W) => given_ok a b _ _ W (asc_ext htab hW) ((HA.out.ext hW).weaken (fun k hk => Nat.lt_of_lt_of_le hk hW.size)) ((HB.out.ext hW).weaken (fun k hk => Nat.lt_of_lt_of_le hk hW.size)) (by omega) (by omega) ha hb (fun v hv u hu e => by rw [hc v (List.mem_append_left _ hv) u (List.mem_append_right _ hu) e]))
  have HVA := Lib.hid (fun W (hW : Ext w W) => tvars_x a _ W (asc_ext htab hW) ((HA.out.ext hW).weaken (fun k hk => Nat.lt_of_lt_of_le hk hW.size)) (by omega))
  have HVB := Lib.hid (fun W (hW : Ext w W) => tvars_x b _ W (asc_ext htab hW) ((HB.out.ext hW).weaken (fun k hk => Nat.lt_of_lt_of_le hk hW.size)) (by omega))
  rw [varsF_wf ha] at HVA
  rw [varsF_wf hb] at HVB
  dsimp only [tV] at HGV HVA HVB ⊢
  have hZ := ((Upd.refl (fun _ => False) w).alloc (.cells #[.string a.name, .string a.sort, .slice aa a.kids.length ac] 24)).alloc (.cells #[.string b.name, .string b.sort, .slice ba b.kids.length bc] 24)
  have hb2 := allocOld (alloc0 w (.cells #[.string a.name, .string a.sort, .slice aa a.kids.length ac] 24)) (.cells #[.string b.name, .string b.sort, .slice ba b.kids.length bc] 24)
  have hb3 := alloc_at (w.alloc (.cells #[.string a.name, .string a.sort, .slice aa a.kids.length ac] 24)) (.cells #[.string b.name, .string b.sort, .slice ba b.kids.length bc] 24) (n := w.heap.size + 1) (by simp)
  have hsz : w.heap.size + 2 ≤ ((w.alloc (.cells #[.string a.name, .string a.sort, .slice aa a.kids.length ac] 24)).alloc (.cells #[.string b.name, .string b.sort, .slice ba b.kids.length bc] 24)).heap.size := by simp
  clear hA hB htab hc hso hfin hTB hsa hsb ha hb hS hN had0 had1 hR
  have x0 := cellRow hb2 0 (.string a.name) rfl
  have x1 := cellRow hb2 1 (.string a.sort) rfl
  have x2 := cellRow hb2 2 (.slice aa a.kids.length ac) rfl
  have y0 := cellRow hb3 0 (.string b.name) rfl
  have y1 := cellRow hb3 1 (.string b.sort) rfl
  have y2 := cellRow hb3 2 (.slice ba b.kids.length bc) rfl
  have HZ := Lib.hid hZ
  have H2 := Lib.hid hb2
  have H3 := Lib.hid hb3
  have HZS := Lib.hid hsz
  clear hZ hb2 hb3 hsz
  go_enter Tryz.func17, Tryz.ntmps17
  go_wp2_with fail
  refine (HGV.out _ HZ.out).mono ?_
  rintro e w3 ⟨rfl, hw3⟩
  have HE3 := Lib.hid (HZ.out.trans hw3)
  have HS3 : Hid (w.heap.size + 2 ≤ w3.heap.size) := Lib.hid (Nat.le_trans HZS.out hw3.size)
  have H23 := Lib.hid (hw3.heap H2.out (fun h => h))
  have H33 := Lib.hid (hw3.heap H3.out (fun h => h))
  clear hw3 x0 x1 x2 y0 y1 y2 H2 H3 HZ HGV HZS
  obtain ⟨bv, hbv⟩ : ∃ n, w3.heap.size = n := ⟨_, rfl⟩
  obtain ⟨bn, hbn⟩ : ∃ n, bv + 1 = n := ⟨_, rfl⟩
  obtain ⟨ub, hub⟩ : ∃ n, bn + 1 = n := ⟨_, rfl⟩
  have hx4 := (((Upd.refl (fun _ => False) w3).alloc (.map #[] 0)).alloc (.map #[] 0)).alloc (.cells #[.map (some bv), .map (some bn)] 108)
  have hmv : MpR (fun s : ByteArray => Value.string s) (((w3.alloc (.map #[] 0)).alloc (.map #[] 0)).alloc (.cells #[.map (some bv), .map (some bn)] 108)) bv [] := by
    have := MpR.made (fun s : ByteArray => Value.string s) w3
    rw [hbv] at this
    exact this.ext (((Upd.refl (fun _ => False) _).alloc _).alloc _)
  have hmn : MpR adV (((w3.alloc (.map #[] 0)).alloc (.map #[] 0)).alloc (.cells #[.map (some bv), .map (some bn)] 108)) bn [] := by
    have := MpR.made adV (w3.alloc (.map #[] 0))
    rw [show (w3.alloc (.map #[] 0)).heap.size = bn by simp; omega] at this
    exact this.ext ((Upd.refl (fun _ => False) _).alloc _)
  have hub4 := alloc_at ((w3.alloc (.map #[] 0)).alloc (.map #[] 0)) (.cells #[.map (some bv), .map (some bn)] 108) (n := ub) (by simp; omega)
  have hsz4 : (((w3.alloc (.map #[] 0)).alloc (.map #[] 0)).alloc (.cells #[.map (some bv), .map (some bn)] 108)).heap.size = bv + 3 := by simp; omega
  have hmm := @run_makeMap Tryz.prog
  go_wp2_with fail
  generalize (((w3.alloc (.map #[] 0)).alloc (.map #[] 0)).alloc (.cells #[.map (some bv), .map (some bn)] 108)) = w4 at *
  have HS4 : Hid (w.heap.size + 2 ≤ bv ∧ bn = bv + 1 ∧ ub = bv + 2 ∧ w4.heap.size = bv + 3) := Lib.hid ⟨by rw [← hbv]; exact HS3.out, hbn.symm, by omega, hsz4⟩
  have HX4 : Hid (Ext w3 w4) := Lib.hid hx4
  have HEX4 : Hid (Ext w w4) := Lib.hid (HE3.out.trans hx4)
  have H24 := Lib.hid (hx4.heap H23.out (fun h => h))
  have H34 := Lib.hid (hx4.heap H33.out (fun h => h))
  have HU4 : Hid (Ur T ad S 121 108 bv bn ub [] ⟨[], [], []⟩ w4) := Lib.hid ⟨⟨hmv, hmn, rfl, by simp; omega, fun c x h => by simp at h, fun e h => (by cases h), fun e h => (by cases h), fun x h => (by cases h)⟩,
    HNN.out _ HEX4.out H24.out H34.out, hub4, (by rintro (h | h | h) <;> first | omega | cases h), fun k hk => ⟨by have := HSS.out k hk; have := HS4.out; omega, by rintro (h | h | h) <;> first | (have := HSS.out k hk; have := HS4.out; omega) | cases h⟩⟩
  have HFX : Hid (∀ W, Upd (Fb bv bn []) w4 W → Ext w W) := Lib.hid (fun W hW => HEX4.out.trans' hW (fun j hj h => by have := HS4.out; rcases h with h | h | h <;> first | omega | cases h))
  clear hmv hmn hub4 hsz4 hbv hbn hub hx4 hmm H23 H33 HX4 HS3 HE3
  have hR := HRR.out
  unfold uRes at hR
  cases hun : unF T F ⟨[], [], []⟩ 0 1 with
  | none => rw [hun] at hR; cases hR
  | some q =>
  obtain ⟨st1, ok1⟩ := q
  rw [hun] at hR
  have HU1 := Lib.hid (unify_x HTB.out F [] ⟨[], [], []⟩ st1 w4 0 1 ok1 HU4.out hun)
  rw [HAD.out.1, HAD.out.2] at HU1
  have HR1 := Lib.hid hR
  clear hR hun
  refine HU1.out.mono ?_
  rintro e w5 ⟨rfl, bk1, hu1⟩
  have HXF := Lib.hid (HFX.out _ hu1.upd)
  have HUS1 := Lib.hid hu1
  clear hu1 HU1
  have hR := HR1.out
  cases ok1 with
  | false =>
    simp only at hR
    have hRn : R = none := by injection hR with h; exact h.symm
    subst hRn
    go_wp2_with fail
    go_ret2
    exact ⟨rfl, HXF.out⟩
  | true =>
  simp only at hR
  have HR2 := Lib.hid hR
  have hn2 : ∀ k, k < w.heap.size + 2 → ¬ Fb bv bn [] k := fun k h1 h => by have := HS4.out; rcases h with h | h | h <;> first | omega | cases h
  have H25 := Lib.hid (HUS1.out.upd.heap H24.out (hn2 _ (by omega)))
  have H35 := Lib.hid (HUS1.out.upd.heap H34.out (hn2 _ (by omega)))
  clear hn2 H24 H34 HR1 hR
  have x0 := cellRow H25.out 0 (.string a.name) rfl
  have x1 := cellRow H25.out 1 (.string a.sort) rfl
  have x2 := cellRow H25.out 2 (.slice aa a.kids.length ac) rfl
  go_wp2_with fail
  refine (HVA.out _ HXF.out).mono ?_
  rintro e w6 ⟨r1, rfl, hr1, hw6⟩
  have HE6 := Lib.hid (HXF.out.trans hw6)
  have H26 := Lib.hid (hw6.heap H25.out (fun h => h))
  have H36 := Lib.hid (hw6.heap H35.out (fun h => h))
  have HUS2 := Lib.hid (HUS1.out.ext hw6)
  have HF1 := Lib.hid hr1
  obtain ⟨p1, c1, hp1⟩ := FiR.shape hr1
  subst hp1
  clear hw6 x0 x1 x2 H25 H35 HUS1 hr1 HVA
  have y0 := cellRow H36.out 0 (.string b.name) rfl
  have y1 := cellRow H36.out 1 (.string b.sort) rfl
  have y2 := cellRow H36.out 2 (.slice ba b.kids.length bc) rfl
  go_wp2_with fail
  refine (HVB.out _ HE6.out).mono ?_
  rintro e w7 ⟨r2, rfl, hr2, hw7⟩
  have HE7 := Lib.hid (HE6.out.trans hw7)
  have H27 := Lib.hid (hw7.heap H26.out (fun h => h))
  have H37 := Lib.hid (hw7.heap H36.out (fun h => h))
  have HUS3 := Lib.hid (HUS2.out.ext hw7)
  have HF17 := Lib.hid (FiR.ext HF1.out hw7)
  have HF27 := Lib.hid hr2
  obtain ⟨p2, c2, hp2⟩ := FiR.shape hr2
  subst hp2
  clear hw7 y0 y1 y2 H26 H36 HUS2 hr2 HVB HF1
  have hmm := @run_makeMap Tryz.prog
  have hla : (varsT a).length ≤ 100000 := Nat.le_trans (varsT_len HWF.out.1) HSA.out.1
  have hlb : (varsT b).length ≤ 100000 := Nat.le_trans (varsT_len HWF.out.2) HSA.out.2
  have hx8 := ((Upd.refl (fun _ => False) w7).alloc (.map #[] 0)).alloc (.cells #[.slice p1 (varsT a).length c1, .slice p2 (varsT b).length c2] 111)
  have hb8 := alloc_at (w7.alloc (.map #[] 0)) (.cells #[.slice p1 (varsT a).length c1, .slice p2 (varsT b).length c2] 111) (n := w7.heap.size + 1) (by simp)
  have hcc := concat_x (varsT a) (varsT b) _ _ (fun _ => True) (w7.heap.size + 1) _ (SlR.weaken (FiR.ext HF17.out hx8) (fun _ _ => trivial)) (SlR.weaken (FiR.ext HF27.out hx8) (fun _ _ => trivial)) (cellRow hb8 0 _ rfl) (cellRow hb8 1 _ rfl) (by omega) (by omega)
  have HCC := Lib.hid hcc
  have hmt : MpR (fun s : ByteArray => Value.string s) ((w7.alloc (.map #[] 0)).alloc (.cells #[.slice p1 (varsT a).length c1, .slice p2 (varsT b).length c2] 111)) w7.heap.size [] := (MpR.made _ w7).ext ((Upd.refl (fun _ => False) _).alloc _)
  have hs8 : ((w7.alloc (.map #[] 0)).alloc (.cells #[.slice p1 (varsT a).length c1, .slice p2 (varsT b).length c2] 111)).heap.size = w7.heap.size + 2 := by simp
  have HX8 := Lib.hid hx8
  have HMT8 := Lib.hid hmt
  have HS8 := Lib.hid hs8
  have HNF7 : Hid (∀ k, Fb bv bn bk1 k → k < w7.heap.size) := Lib.hid (fun k hk => HUS3.out.ur.us.lt k hk)
  have HS7 : Hid (w4.heap.size ≤ w7.heap.size) := Lib.hid HUS3.out.upd.size
  obtain ⟨VL, hVL⟩ : ∃ L, varsT a ++ varsT b = L := ⟨_, rfl⟩
  have hlv : VL.length ≤ 200000 := by rw [← hVL, List.length_append]; omega
  clear hla hlb hx8 hb8 hcc hmt hs8
  go_wp2_with fail
  generalize (w7.alloc (.map #[] 0)).alloc (.cells #[.slice p1 (varsT a).length c1, .slice p2 (varsT b).length c2] 111) = w8 at *
  obtain ⟨tb, htb⟩ : ∃ n, w7.heap.size = n := ⟨_, rfl⟩
  refine HCC.out.mono ?_
  rintro e w9 ⟨r3, rfl, hr3, hw9⟩
  rw [hVL] at hr3 HR2 HC HSO HFIN
  have HVL := Lib.hid hVL
  have HMT9 := Lib.hid (HMT8.out.ext hw9)
  have HE9 := Lib.hid ((HE7.out.trans HX8.out).trans hw9)
  have HUS9 := Lib.hid ((HUS3.out.ext HX8.out).ext hw9)
  obtain ⟨s9, hs9⟩ : ∃ n, w9.heap.size = n := ⟨_, rfl⟩
  have HFV9 : Hid (FiR (fun j => tb < j ∧ j < s9) w9 r3 VL) := Lib.hid (SlR.weaken hr3 (fun k hk => ⟨by have := HS8.out; omega, by rw [← hs9]; exact hk.2⟩))
  have HT9 : Hid (w4.heap.size ≤ tb ∧ tb < s9 ∧ s9 ≤ w9.heap.size) := Lib.hid ⟨by have := HS7.out; omega, by have h1 := HS8.out; have h2 := hw9.size; omega, by omega⟩
  have HNF9 : Hid (∀ k, tb ≤ k → k < s9 → ¬ Fb bv bn bk1 k) := Lib.hid (fun k h1 h2 h => by have := HNF7.out k h; omega)
  obtain ⟨p3, c3, hp3⟩ := FiR.shape HFV9.out
  subst hp3
  have HTB9 : Hid (MpR (fun s : ByteArray => Value.string s) w9 tb ((tbOf (VL.take 0)).map fun x => (x.1.1, Value.agg (beEnc x).toArray))) := Lib.hid (by rw [← htb]; exact HMT9.out)
  have hR := HR2.out
  cases hav : acV T F st1 VL with
  | none => rw [hav] at hR; cases hR
  | some q =>
  obtain ⟨sa, oka⟩ := q
  rw [hav] at hR
  have HR3 := Lib.hid hR
  have HAV0 : Hid (acV T F st1 (VL.drop 0) = some (sa, oka)) := Lib.hid hav
  rw [htb]
  clear hw9 hs9 htb hVL hr3 HX8 HCC HMT8 HMT9 HF17 HF27 HUS3 HE7 HR2 hR hav HNF7 HS7 HS8 hmm
  go_wp2_with fail
  go_loopg [50] VL.length (fun gk iv wr => ∃ (k : Nat) (stk : St) (bkk : List Nat), iv = .int .i64 (k : Int) ∧ gk = VL.length - k ∧ k ≤ VL.length ∧ Hid (Us' T ad S 121 108 bv bn ub [] bkk stk w4 wr) ∧ Hid (acV T F stk (VL.drop k) = some (sa, oka)) ∧ Hid (∀ k, tb ≤ k → k < s9 → ¬ Fb bv bn bkk k) ∧ Hid (FiR (fun j => tb < j ∧ j < s9) wr (.slice p3 VL.length c3) VL) ∧ Hid (MpR (fun s : ByteArray => Value.string s) wr tb ((tbOf (VL.take k)).map fun x => (x.1.1, Value.agg (beEnc x).toArray))) ∧ Hid (s9 ≤ wr.heap.size))
  case atStart => exact ⟨0, _, _, rfl, rfl, Nat.zero_le _, HUS9, HAV0, HNF9, HFV9, HTB9, Lib.hid HT9.out.2.2⟩
  case round =>
    clear HUS9 HAV0 HNF9 HFV9 HTB9 HE9
    obtain ⟨k, stk, bkk, rfl, rfl, hk, HU, HAV, HNF, HFV, HMT, HSZ⟩ := hrel
    have HXF := Lib.hid (HFX.out _ HU.out.upd)
    by_cases hlt : k < VL.length
    · have HUL : Hid (∀ k, Fb bv bn bkk k → k < wr.heap.size) := Lib.hid (fun k hk => HU.out.ur.us.lt k hk)
      obtain ⟨g, off, hp3, hat⟩ := FiR.at_ HFV.out (by omega)
      subst hp3
      obtain ⟨q0, q1⟩ := hat k hlt
      have hvm := vg_mem' hlt
      have htk := take_vg VL k hlt
      have hav := HAV.out
      rw [drop_vg VL k hlt] at hav
      obtain ⟨v, hv⟩ : ∃ v, vg VL k = v := ⟨_, rfl⟩
      rw [hv] at q0 q1 hvm htk hav
      obtain ⟨nm, so⟩ := v
      simp only at q0 q1
      have HSO1 : Hid (so ≠ nul) := Lib.hid (HSO.out _ hvm)
      unfold acV at hav
      simp only at hav
      cases hvf : varF F stk nm so with
      | none => rw [hvf] at hav; cases hav
      | some q =>
      obtain ⟨st1', c⟩ := q
      rw [hvf] at hav
      simp only at hav
      cases hag : acG T F st1' c with
      | none => rw [hag] at hav; cases hav
      | some q =>
      obtain ⟨st2', b2⟩ := q
      rw [hag] at hav
      have HAV1 := Lib.hid hav
      have HAG := Lib.hid hag
      have HTK := Lib.hid htk
      have hxA := ((Upd.refl (fun _ => False) wr).alloc (.cells #[.string nm, .string so] 116)).alloc (.cells #[.string nm, .string so, .slice none 0 0] 24)
      have hB14 := allocOld (alloc0 wr (.cells #[.string nm, .string so] 116)) (.cells #[.string nm, .string so, .slice none 0 0] 24)
      have hB15 := alloc_at (wr.alloc (.cells #[.string nm, .string so] 116)) (.cells #[.string nm, .string so, .slice none 0 0] 24) (n := wr.heap.size + 1) (by simp)
      have hsA : ((wr.alloc (.cells #[.string nm, .string so] 116)).alloc (.cells #[.string nm, .string so, .slice none 0 0] 24)).heap.size = wr.heap.size + 2 := by simp
      have HUA := Lib.hid (HU.out.ext hxA)
      have HCL := Lib.hid (clsv_x F c (wr.heap.size + 1) 0 nm so none 0 0 HUA.out.ur (cellRow hB15 0 _ rfl) (cellRow hB15 1 _ rfl) (cellRow hB15 2 _ rfl) (fun h => by have := HUL.out _ h; omega) HSO1.out hvf)
      have HB14 := Lib.hid hB14
      have HB15 := Lib.hid hB15
      have HSA2 := Lib.hid hsA
      have HXA := Lib.hid hxA
      have z0 : (0 : Int) ≤ (k : Int) := by omega
      have z1 : (k : Int) < (VL.length : Int) := by omega
      have z2 : decide ((k : Int) < (VL.length : Int)) = true := decide_eq_true z1
      have z2' : decide (k < VL.length) = true := decide_eq_true hlt
      clear hat hvm htk hav hv hvf hag hxA hB14 hB15 hsA
      go_wp2_with fail
      generalize (wr.alloc (.cells #[.string nm, .string so] 116)).alloc (.cells #[.string nm, .string so, .slice none 0 0] 24) = wA at *
      clear q0 q1
      obtain ⟨nA, hnA⟩ : ∃ n, wr.heap.size = n := ⟨_, rfl⟩
      rw [hnA] at HCL HB14 HB15 HSA2 HUL ⊢
      refine HCL.out.mono ?_
      rintro e wB ⟨bkB, rfl, huB⟩
      have HUB := Lib.hid (HUA.out.trans huB)
      have HAC := Lib.hid (acy_x HTB.out F bkB st1' st2' wB c b2 HUB.out.ur HAG.out)
      have HPB := Lib.hid huB
      clear huB HCL
      go_wp2_with fail
      refine HAC.out.mono ?_
      rintro e wC ⟨rfl, bkC, huC⟩
      have HPC := Lib.hid (HPB.out.trans huC)
      have HUC := Lib.hid (HUA.out.trans HPC.out)
      clear huC HAC HPB
      have hav := HAV1.out
      have HXFC := Lib.hid (HFX.out _ HUC.out.upd)
      cases b2 with
      | false =>
        simp only [Option.some.injEq, Prod.mk.injEq] at hav
        obtain ⟨rfl, rfl⟩ := hav
        have hR := HR3.out
        simp only at hR
        have hRn : R = none := by injection hR with h; exact h.symm
        subst hRn
        go_wp2_with fail
        go_ret2
        exact ⟨rfl, HXFC.out⟩
      | true =>
      simp only at hav
      have HAV2 := Lib.hid hav
      have hnf : ∀ k, Fb bv bn bkk k → k < nA := HUL.out
      have hB14 := HPC.out.upd.heap HB14.out (fun h => by have := hnf _ h; omega)
      have hB15 := HPC.out.upd.heap HB15.out (fun h => by have := hnf _ h; omega)
      have HNFC : Hid (∀ k, tb ≤ k → k < s9 → ¬ Fb bv bn bkC k) := Lib.hid (fun k h1 h2 h => by
        rcases h with h | h | h
        · exact HNF.out k h1 h2 (.inl h)
        · exact HNF.out k h1 h2 (.inr (.inl h))
        · rcases HPC.out.new k h with h | h
          · exact HNF.out k h1 h2 (.inr (.inr h))
          · have := HSA2.out; have := HSZ.out; omega)
      have hmtC : MpR (fun s : ByteArray => Value.string s) wC tb ((tbOf (VL.take k)).map fun x => (x.1.1, Value.agg (beEnc x).toArray)) := (HMT.out.ext HXA.out).kept HPC.out.upd (HNF.out tb (Nat.le_refl _) HT9.out.2.1)
      have HFVC : Hid (FiR (fun j => tb < j ∧ j < s9) wC (.slice (some ⟨g, off, none⟩) VL.length c3) VL) := Lib.hid (SlR.kept (FiR.ext HFV.out HXA.out) HPC.out.upd (fun j hj => HNF.out j (by omega) hj.2))
      have HSZC : Hid (s9 ≤ wC.heap.size) := Lib.hid (by have h1 := HPC.out.upd.size; have := HSA2.out; have := HSZ.out; omega)
      obtain ⟨W2, hput0, hmp2, hu2⟩ := MpR.put (P := Tryz.prog) (t := 98) (strKey Tryz.underlying9) Tryz.underlying98 hmtC nm (.agg #[.string nm, .string so, .string nm, .string so, .slice none 0 0])
      have hput : (Instr.mapUpdate 98 (.map (some tb)) (.string nm) (.agg #[.string nm, .string so, .string nm, .string so, .slice none 0 0])).run Tryz.prog wC = .ok () W2 := hput0
      have HMT2 : Hid (MpR (fun s : ByteArray => Value.string s) W2 tb ((tbOf (VL.take (k + 1))).map fun x => (x.1.1, Value.agg (beEnc x).toArray))) := Lib.hid (by
        rw [HTK.out, tbOf_snoc, putB_aput]
        exact hmp2)
      have htl : w4.heap.size ≤ tb := HT9.out.1
      have HU2 : Hid (Us' T ad S 121 108 bv bn ub [] bkC st2' w4 W2) := Lib.hid (Us'.outside HUC.out hu2 (fun j hj e => by
        rcases hj with hj | hj | hj
        · exact HNFC.out tb (Nat.le_refl _) HT9.out.2.1 (by rw [← e]; exact hj)
        · have := HSS.out j hj; have := HS4.out; omega
        · have := HS4.out; omega) (fun j hj e => by omega))
      have HFV2 : Hid (FiR (fun j => tb < j ∧ j < s9) W2 (.slice (some ⟨g, off, none⟩) VL.length c3) VL) := Lib.hid (SlR.kept HFVC.out hu2 (fun j hj e => by omega))
      have HSZ2 : Hid (s9 ≤ W2.heap.size) := Lib.hid (Nat.le_trans HSZC.out hu2.size)
      have b0 := cellRow hB14 0 (.string nm) rfl
      have b1 := cellRow hB14 1 (.string so) rfl
      have d0 := cellRow hB15 0 (.string nm) rfl
      have d1 := cellRow hB15 1 (.string so) rfl
      have d2 := cellRow hB15 2 (.slice none 0 0) rfl
      clear hav hnf hB14 hB15 hmtC hput0 hmp2 hu2 HXFC HUA HUB HPC HUC
      go_wp2_with fail
      go_roundg (VL.length - (k + 1))
      case measure => omega
      case rel => exact ⟨k + 1, _, _, by go_num, rfl, by omega, HU2, HAV2, HNFC, HFV2, HMT2, HSZ2⟩
    · obtain rfl : k = VL.length := by omega
      have z2 : decide ((VL.length : Int) < (VL.length : Int)) = false := decide_eq_false (by omega)
      have hav := HAV.out
      rw [List.drop_length] at hav
      unfold acV at hav
      simp only [Option.some.injEq, Prod.mk.injEq] at hav
      obtain ⟨rfl, rfl⟩ := hav
      have hR := HR3.out
      simp only at hR
      cases hcl : classF T F stk 0 with
      | none => rw [hcl] at hR; cases hR
      | some q =>
      obtain ⟨st3, c⟩ := q
      rw [hcl] at hR
      simp only at hR
      cases hag : acG T F st3 c with
      | none => rw [hag] at hR; cases hR
      | some q =>
      obtain ⟨st4, b2⟩ := q
      rw [hag] at hR
      have HR4 := Lib.hid hR
      have HAG := Lib.hid hag
      have HCL := Lib.hid (cls_x F 0 c HU.out.ur hcl)
      rw [HAD.out.1] at HCL
      have HTV : Hid (MpR (fun s : ByteArray => Value.string s) wr tb ((tbOf VL).map fun x => (x.1.1, Value.agg (beEnc x).toArray))) := Lib.hid (by have := HMT.out; rw [List.take_length] at this; exact this)
      clear hR hcl hag HMT
      go_wp2_with fail
      refine HCL.out.mono ?_
      rintro e wB ⟨bkB, rfl, huB⟩
      have HUB := Lib.hid (HU.out.trans huB)
      have HAC := Lib.hid (acy_x HTB.out F bkB st3 st4 wB c b2 HUB.out.ur HAG.out)
      have HPB := Lib.hid huB
      clear huB HCL
      go_wp2_with fail
      refine HAC.out.mono ?_
      rintro e wC ⟨rfl, bkC, huC⟩
      have HPC := Lib.hid (HPB.out.trans huC)
      have HUC := Lib.hid (HU.out.trans HPC.out)
      clear huC HAC HPB HUB
      have HXFC := Lib.hid (HFX.out _ HUC.out.upd)
      have hR := HR4.out
      cases b2 with
      | false =>
        simp only at hR
        have hRn : R = none := by injection hR with h; exact h.symm
        subst hRn
        go_wp2_with fail
        go_ret2
        exact ⟨rfl, HXFC.out⟩
      | true =>
      simp only at hR
      obtain rfl : R = some st4 := by injection hR with h; exact h.symm
      have HFI := Lib.hid (HFIN.out st4 rfl)
      have HNFC : Hid (∀ k, tb ≤ k → k < s9 → ¬ Fb bv bn bkC k) := Lib.hid (fun k h1 h2 h => by
        rcases h with h | h | h
        · exact HNF.out k h1 h2 (.inl h)
        · exact HNF.out k h1 h2 (.inr (.inl h))
        · rcases HPC.out.new k h with h | h
          · exact HNF.out k h1 h2 (.inr (.inr h))
          · have := HSZ.out; omega)
      have HTC := Lib.hid (HTV.out.kept HPC.out.upd (HNF.out tb (Nat.le_refl _) HT9.out.2.1))
      have HSZC : Hid (s9 ≤ wC.heap.size) := Lib.hid (Nat.le_trans HSZ.out HPC.out.upd.size)
      have HLW : Hid (∀ j, w4.heap.size ≤ j → j < wC.heap.size → w4.heap.size ≤ j) := Lib.hid (fun _ h _ => h)
      clear hR HR4 HPC HU HXF HTV HNF HSZ HAV HFV
      obtain ⟨es, clock, hb, hes, hbp, hbc⟩ := HTC.out
      have HSP := Lib.hid (tbOf_spec VL HC.out)
      have HND : Hid ((es.toList.map (·.born)).Nodup) := Lib.hid (by
        rw [List.Nodup, List.pairwise_map]
        exact hbp.imp (fun h e => by omega))
      have HBP := Lib.hid hbp
      have HBC := Lib.hid hbc
      have HES := Lib.hid hes
      have HNE : Hid (NmE es.toList ((tbOf VL).map fun x => x.1.1)) := Lib.hid (by
        have := NmE.of hes
        rw [List.map_map] at this
        exact this)
      have hrg := run_range_map (P := Tryz.prog) wC 98 9 93 tb es clock Tryz.underlying98 hb
      have hblt : tb < wC.heap.size := (Array.getElem?_eq_some_iff.1 hb).1
      have HBL := Lib.hid hblt
      have HB0 := Lib.hid (allocOld hb (.mapIter (some tb) clock #[] clock))
      have HR0 := Lib.hid (alloc0 wC (.mapIter (some tb) clock #[] clock))
      have hE0 := (Upd.refl (fun _ => False) wC).alloc (.mapIter (some tb) clock #[] clock)
      have HU0 := Lib.hid (HUC.out.ext hE0)
      have HZ0 : Hid (wC.heap.size + 1 ≤ (wC.alloc (.mapIter (some tb) clock #[] clock)).heap.size) := Lib.hid (by simp)
      have HFR : Hid (∀ j, wC.heap.size ≤ j → ¬ (Fb bv bn bkC j ∨ S j ∨ j = ub) ∧ w4.heap.size ≤ j ∧ tb < j) := Lib.hid (fun j hj => by
        have h1 := HUC.out.upd.size
        have h2 := HS4.out
        refine ⟨?_, by omega, by omega⟩
        rintro (h | h | h)
        · have := HUC.out.ur.us.lt j h; omega
        · have := HSS.out j h; omega
        · omega)
      clear hes hbp hbc hb hblt hE0 HTC HUC HXFC
      go_wp2_with fail
      try go_frame
      generalize wC.alloc (.mapIter (some tb) clock #[] clock) = w7' at *
      clear hrg
      obtain ⟨ri, hri⟩ : ∃ n, wC.heap.size = n := ⟨_, rfl⟩
      rw [hri] at HR0 HZ0 HBL HFR ⊢
      clear hri
      go_loopg [] (leftOf es #[]).size (fun gk wr => ∃ (D : List By) (seen : Array Nat), gk = (leftOf es seen).size ∧ Hid (wr.heap[ri]? = some (.mapIter (some tb) clock seen clock)) ∧ Hid (wr.heap[tb]? = some (.map es clock)) ∧ Hid (Us' T ad S 121 108 bv bn ub [] bkC st4 w4 wr) ∧ Hid (ri + 1 ≤ wr.heap.size) ∧ Hid (SnI es.toList seen D))
      case atStart => exact ⟨[], #[], rfl, HR0, HB0, HU0, HZ0, Lib.hid (SnI.start _)⟩
      case round =>
        clear HR0 HB0 HU0 HZ0
        obtain ⟨D, seen, rfl, HRI, HBB, HU, HSR, HV⟩ := hrel
        rcases run_next_at (P := Tryz.prog) wr 0 ri tb clock clock seen es clock HRI.out HBB.out (fun x hx => HBC.out x hx) (Nat.le_refl _) with ⟨h0, hrun⟩ | ⟨e, he, w1, hw1, hrun⟩
        · have hnx : ∀ ty, (Instr.next (.pointer (some ⟨ri, 0, none⟩)) false ty).run Tryz.prog wr = _ := fun _ => hrun
          clear h0 HRI HV
          have hrg := run_range_map (P := Tryz.prog) wr 98 9 93 tb es clock Tryz.underlying98 HBB.out
          have HB0 := Lib.hid (allocOld HBB.out (.mapIter (some tb) clock #[] clock))
          have HR0 := Lib.hid (alloc0 wr (.mapIter (some tb) clock #[] clock))
          have hE0 := (Upd.refl (fun _ => False) wr).alloc (.mapIter (some tb) clock #[] clock)
          have HU0 := Lib.hid (HU.out.ext hE0)
          have HZ0 : Hid (wr.heap.size + 1 ≤ (wr.alloc (.mapIter (some tb) clock #[] clock)).heap.size) := Lib.hid (by simp)
          have HFS : Hid (∀ j, wr.heap.size ≤ j → ¬ (Fb bv bn bkC j ∨ S j ∨ j = ub) ∧ w4.heap.size ≤ j ∧ tb < j ∧ w.heap.size ≤ j) := Lib.hid (fun j hj => by
            have h1 := HSR.out
            obtain ⟨h2, h3, h4⟩ := HFR.out j (by omega)
            have h5 := HS4.out
            exact ⟨h2, h3, h4, by omega⟩)
          have HJ0 : Hid (∀ x ∈ tbOf VL, ∃ v ∈ VL, x.1.1 = v.1 ∧ ((x.1.1 ∉ ([] : List By) ∧ x = vaBe v) ∨ (x.1.1 ∈ ([] : List By) ∧ x.1 = (v.1, v.2, τ v) ∧ TlR (fun j => wr.heap.size + 1 ≤ j ∧ j < (wr.alloc (.mapIter (some tb) clock #[] clock)).heap.size) (wr.alloc (.mapIter (some tb) clock #[] clock)) (τ v).kids (beV x)))) := Lib.hid (fun x hx => by
            obtain ⟨v, hv, rfl⟩ := (HSP.out.2 x).1 hx
            exact ⟨v, hv, rfl, .inl ⟨by simp, rfl⟩⟩)
          have HE0 : Hid (es.toList.map (fun e => (e.key, e.val)) = (tbOf VL).map (fun x => (Value.string x.1.1, Value.agg (beEnc x).toArray))) := Lib.hid (by
            have := HES.out
            rw [List.map_map] at this
            exact this)
          clear hE0 HU HBB HFR HBL HSR hrun
          go_wp2_with fail
          try go_frame
          generalize wr.alloc (.mapIter (some tb) clock #[] clock) = w8' at *
          clear hrg hnx
          obtain ⟨rj, hrj⟩ : ∃ n, wr.heap.size = n := ⟨_, rfl⟩
          rw [hrj] at HR0 HZ0 HFS HJ0 ⊢
          clear hrj
          go_loopg [] (leftOf es #[]).size (fun gk wr => ∃ (D : List By) (seen : Array Nat) (es' : Array MapEntry) (lk : List Be), gk = (leftOf es' seen).size ∧ Hid (wr.heap[rj]? = some (.mapIter (some tb) clock seen clock)) ∧ Hid (wr.heap[tb]? = some (.map es' clock)) ∧ Hid (Us' T ad S 121 108 bv bn ub [] bkC st4 w4 wr) ∧ Hid (rj + 1 ≤ wr.heap.size) ∧ Hid (SnI es'.toList seen D) ∧ Hid (es'.toList.map (fun e => (e.key, e.val)) = lk.map (fun x => (Value.string x.1.1, Value.agg (beEnc x).toArray))) ∧ Hid (es'.toList.map (·.born) = es.toList.map (·.born)) ∧ Hid (lk.map (fun x => x.1.1) = (tbOf VL).map fun x => x.1.1) ∧ Hid (∀ x ∈ lk, ∃ v ∈ VL, x.1.1 = v.1 ∧ ((x.1.1 ∉ D ∧ x = vaBe v) ∨ (x.1.1 ∈ D ∧ x.1 = (v.1, v.2, τ v) ∧ TlR (fun j => rj + 1 ≤ j ∧ j < wr.heap.size) wr (τ v).kids (beV x)))))
          case atStart => exact ⟨[], #[], es, tbOf VL, rfl, HR0, HB0, HU0, HZ0, Lib.hid (SnI.start _), HE0, Lib.hid rfl, Lib.hid rfl, HJ0⟩
          case round =>
            clear HR0 HB0 HU0 HZ0 HJ0 HE0
            obtain ⟨D, seen, es', lk, rfl, HRI, HBB, HU, HSR, HV, HEK, HBO, HNK, HJ⟩ := hrel
            have HND' : Hid ((es'.toList.map (·.born)).Nodup) := Lib.hid (by rw [HBO.out]; exact HND.out)
            have HBC' : Hid (∀ x ∈ es'.toList, x.born < clock) := Lib.hid (fun x hx => by
              have h1 : x.born ∈ es'.toList.map (·.born) := List.mem_map.2 ⟨x, hx, rfl⟩
              rw [HBO.out] at h1
              obtain ⟨y, hy, e⟩ := List.mem_map.1 h1
              rw [← e]
              exact HBC.out y hy)
            have HNE' : Hid (NmE es'.toList (lk.map fun x => x.1.1)) := Lib.hid (by
              have h1 := congrArg (List.map Prod.fst) HEK.out
              rw [List.map_map, List.map_map] at h1
              unfold NmE
              rw [List.map_map]
              exact h1)
            have HNN' : Hid ((lk.map fun x => x.1.1).Nodup) := Lib.hid (by rw [HNK.out]; exact HSP.out.1)
            rcases run_next_at (P := Tryz.prog) wr 0 rj tb clock clock seen es' clock HRI.out HBB.out (fun x hx => HBC'.out x hx) (Nat.le_refl _) with ⟨h0, hrun⟩ | ⟨e, he, w1, hw1, hrun⟩
            · have hnx : ∀ ty, (Instr.next (.pointer (some ⟨rj, 0, none⟩)) false ty).run Tryz.prog wr = _ := fun _ => hrun
              have hfin := HV.out.fin HNE'.out h0
              have hall : ∀ x ∈ lk, ∃ v ∈ VL, x.1.1 = v.1 ∧ x.1 = (v.1, v.2, τ v) ∧ TlR (fun j => rj + 1 ≤ j ∧ j < wr.heap.size) wr (τ v).kids (beV x) := fun x hx => by
                obtain ⟨v, hv, h1, h2⟩ := HJ.out x hx
                have hd : x.1.1 ∈ D := (hfin _).2 (List.mem_map.2 ⟨x, hx, rfl⟩)
                rcases h2 with ⟨h2, _⟩ | ⟨_, h2, h3⟩
                · exact absurd hd h2
                · exact ⟨v, hv, h1, h2, h3⟩
              have htb : TbR (fun j => rj + 1 ≤ j ∧ j < wr.heap.size) wr tb lk := ⟨⟨es', clock, HBB.out, by rw [HEK.out, List.map_map]; rfl, by
                have h1 : (es'.toList.map (·.born)).Pairwise (· < ·) := by rw [HBO.out]; exact List.pairwise_map.2 HBP.out
                exact List.pairwise_map.1 h1, HBC'.out⟩, HNN'.out, fun x hx => by
                obtain ⟨v, hv, h1, h2, h3⟩ := hall x hx
                rw [h2]
                exact h3⟩
              have hkl : lk.length ≤ 1000000 := by
                have h1 := congrArg List.length HNK.out
                rw [List.length_map, List.length_map] at h1
                have h2 : ((tbOf VL).map fun x => x.1.1).length ≤ (VL.map (·.1)).length := HSP.out.1.length_le_of_subset (fun n hn => by
                  obtain ⟨x, hx, e⟩ := List.mem_map.1 hn
                  obtain ⟨v, hv, e2⟩ := (HSP.out.2 x).1 hx
                  rw [← e, e2]
                  exact List.mem_map.2 ⟨v, hv, rfl⟩)
                rw [List.length_map, List.length_map] at h2
                omega
              have HBI := Lib.hid (bindings_x lk tb _ wr htb (fun k hk => hk.2) (fun x hx => by
                obtain ⟨v, hv, h1, h2, h3⟩ := hall x hx
                obtain ⟨_, _, _, _, _, _, _, _, hts⟩ := HFI.out v hv
                rw [h2]
                exact hts) hkl)
              have HM : Hid (∀ f, (∃ x ∈ lk, x.1 = f) ↔ ∃ v ∈ VL, f = (v.1, v.2, τ v)) := Lib.hid (fun f => by
                constructor
                · rintro ⟨x, hx, e⟩
                  obtain ⟨v, hv, h1, h2, _⟩ := hall x hx
                  exact ⟨v, hv, by rw [← e, h2]⟩
                · rintro ⟨v, hv, e⟩
                  have h1 : v.1 ∈ lk.map fun x => x.1.1 := by
                    rw [HNK.out]
                    exact List.mem_map.2 ⟨vaBe v, (HSP.out.2 _).2 ⟨v, hv, rfl⟩, rfl⟩
                  obtain ⟨x, hx, e2⟩ := List.mem_map.1 h1
                  obtain ⟨u, hu, h3, h4, _⟩ := hall x hx
                  have : u = v := HC.out u hu v hv (by rw [← h3, e2])
                  rw [this] at h4
                  exact ⟨x, hx, by rw [h4, e]⟩)
              have HXR := Lib.hid (HFX.out _ HU.out.upd)
              clear hfin hall htb hkl h0
              go_wp2_with fail
              refine HBI.out.mono ?_
              rintro e w9' ⟨r, L, rfl, hbn, has, hmem, hw9⟩
              obtain ⟨ra, rc, hra⟩ := hbn.shape
              subst hra
              have HRES := Lib.hid (And.intro hbn (And.intro has (And.intro hmem hw9)))
              clear hbn has hmem hw9 hrun hnx HBI
              go_wp2_with fail
              go_ret2
              have hrs := HRES.out
              have hws := HXR.out.size
              refine ⟨.inr ⟨(fun h => by cases h), _, L, rfl, hrs.1.weaken (fun k hk => ⟨by omega, hk.2⟩) (fun k hk => ⟨by omega, hk.2⟩), hrs.2.1, ?_⟩, HXR.out.trans hrs.2.2.2⟩
              have hl := fun f => (hrs.2.2.1 f).trans (and_congr_left (fun _ => HM.out f))
              rw [← HVL.out] at hl
              simpa using hl
            · have hml := mem_left he
              obtain ⟨x, hx, hkv⟩ : ∃ x ∈ lk, (Value.string x.1.1, Value.agg (beEnc x).toArray) = (e.key, e.val) := by
                have h1 : (e.key, e.val) ∈ es'.toList.map (fun e => (e.key, e.val)) := List.mem_map.2 ⟨e, hml.1, rfl⟩
                rw [HEK.out] at h1
                obtain ⟨x, hx, h2⟩ := List.mem_map.1 h1
                exact ⟨x, hx, h2⟩
              have hk0 : e.key = .string x.1.1 := by injection hkv with h1 _; exact h1.symm
              have hnd : x.1.1 ∉ D := fun hd => by
                obtain ⟨e2, he2, hk2, hs2⟩ := HV.out.sub _ hd
                have hee : e2 = e := HNE'.out.uniq HNN'.out he2 hml.1 (by rw [hk2, hk0])
                rw [hee, hml.2] at hs2
                cases hs2
              obtain ⟨v, hvm, hxv⟩ : ∃ v ∈ VL, x = vaBe v := by
                obtain ⟨v, hv, h1, h2⟩ := HJ.out x hx
                rcases h2 with ⟨_, h2⟩ | ⟨h2, _⟩
                · exact ⟨v, hv, h2⟩
                · exact absurd h2 hnd
              subst hxv
              obtain ⟨nm, so⟩ := v
              have hk : e.key = .string nm := hk0
              have hvv : e.val = .agg #[.string nm, .string so, .string nm, .string so, .slice none 0 0] := by injection hkv with _ h1; exact h1.symm
              have hso1 := HSO.out _ hvm
              obtain ⟨c, C, hfd, hvf, hcs, hz1, hz2, hvg, hts⟩ := HFI.out _ hvm
              have hrw : w1.heap[rj]? = some (.mapIter (some tb) clock seen clock) := by rcases hw1 with h | h <;> (rw [h]; exact HRI.out)
              have hu1 : Upd (fun j => j = rj) wr (Go.ChangeMaps.setBlock w1 rj (.mapIter (some tb) clock (seen.push e.born) clock)) := by
                have := upd_setBlock w1 rj (.mapIter (some tb) clock (seen.push e.born) clock)
                rcases hw1 with h | h
                · rw [h] at this ⊢; exact this
                · rw [h] at this ⊢; exact this.ofDrew
              have hr2 := heap_setBlock (o' := .mapIter (some tb) clock (seen.push e.born) clock) hrw
              rw [hk, hvv] at hrun
              generalize Go.ChangeMaps.setBlock w1 rj (.mapIter (some tb) clock (seen.push e.born) clock) = wN at *
              have htj := (HFS.out rj (Nat.le_refl _))
              have HBN := Lib.hid (hu1.heap HBB.out (by have := htj.2.2.1; omega))
              have hen := run_entry_at (P := Tryz.prog) wN rj tb clock seen es' clock e hr2 HBN.out hml.1 HND'.out
              rw [hk, hvv] at hen
              have hnx : ∀ ty, (Instr.next (.pointer (some ⟨rj, 0, none⟩)) false ty).run Tryz.prog wr = _ := fun _ => hrun
              have HUN : Hid (Us' T ad S 121 108 bv bn ub [] bkC st4 w4 wN) := Lib.hid (Us'.outside HU.out hu1 (fun j hj e => htj.1 (by rw [← e]; exact hj)) (fun j hj e => by have := htj.2.1; omega))
              have HRN := Lib.hid hr2
              have HVN := Lib.hid (HV.out.next HNE'.out HNN'.out HND'.out hml.1 hml.2 hk)
              have HLT := Lib.hid (left_shrinks es' seen e he)
              have HSN : Hid (rj + 1 ≤ wN.heap.size) := Lib.hid (Nat.le_trans HSR.out hu1.size)
              have HJN : Hid (∀ x ∈ lk, ∃ v ∈ VL, x.1.1 = v.1 ∧ ((x.1.1 ∉ D ∧ x = vaBe v) ∨ (x.1.1 ∈ D ∧ x.1 = (v.1, v.2, τ v) ∧ TlR (fun j => rj + 1 ≤ j ∧ j < wN.heap.size) wN (τ v).kids (beV x)))) := Lib.hid (fun x hx => by
                obtain ⟨v, hv, h1, h2⟩ := HJ.out x hx
                refine ⟨v, hv, h1, h2.imp id (fun ⟨a, b, c⟩ => ⟨a, b, (c.kept hu1 (fun j hj e => by omega)).weaken (fun j hj => ⟨hj.1, Nat.lt_of_lt_of_le hj.2 hu1.size⟩)⟩)⟩)
              have hb5 := alloc0 wN (.cells #[.string nm, .string so, .string nm, .string so, .slice none 0 0] 93)
              have hX5 := (Upd.refl (fun _ => False) wN).alloc (.cells #[.string nm, .string so, .string nm, .string so, .slice none 0 0] 93)
              have HUX := Lib.hid (HUN.out.ext hX5)
              have HCL := Lib.hid (clsv_same F c wN.heap.size 2 nm so none 0 0 HUX.out.ur (cellRow hb5 2 _ rfl) (cellRow hb5 3 _ rfl) (cellRow hb5 4 _ rfl) (fun h => by have := HUN.out.ur.us.lt _ h; omega) hso1 hfd hvf).2
              have HX5 := Lib.hid hX5
              have HB5 := Lib.hid hb5
              have HVG := Lib.hid hvg
              have HXM := Lib.hid hx
              have HVM := Lib.hid hvm
              have HND1 := Lib.hid hnd
              clear hml hk hvv hrw hu1 hr2 he hw1 hkv hb5 hX5 hso1 hfd hvf hcs hz1 hz2 hvg hts hvm hx hk0 hnd htj
              go_wp2_with fail
              refine HCL.out.mono ?_
              rintro e2 w5 ⟨rfl, hw5⟩
              have HU5 := Lib.hid (HUX.out.ext hw5)
              have HX6 := Lib.hid (HX5.out.trans hw5)
              have HB55 := Lib.hid (hw5.heap HB5.out (fun h => h))
              have HVX := Lib.hid (val_x HTB.out F w5 c (τ (nm, so)) HU5.out.ur HVG.out)
              clear hw5 hnx hrun hen HCL
              go_wp2_with fail
              refine HVX.out.mono ?_
              rintro e3 w6 ⟨r5, B5, rfl, hT5, hb5, hw6⟩
              obtain ⟨ya, yc, hry⟩ := TlO.shape hT5
              subst hry
              obtain ⟨t5, ht5⟩ : ∃ t, τ (nm, so) = t := ⟨_, rfl⟩
              rw [ht5] at hT5
              have HT5Q := Lib.hid ht5
              have HU6 := Lib.hid (HU5.out.ext hw6)
              have HX7 := Lib.hid (HX6.out.trans hw6)
              have HT6 := Lib.hid hT5.read
              have HB6 : Hid (∀ j, B5 j → wN.heap.size < j ∧ j < w6.heap.size) := Lib.hid (fun j hj => ⟨by have h1 := (hb5 j hj).1; have h3 := (Array.getElem?_eq_some_iff.1 HB55.out).1; omega, (hb5 j hj).2⟩)
              have hb6 := hw6.heap HB55.out (fun h => h)
              have HBX6 := Lib.hid hb6
              dsimp only [tV]
              rw [ht5]
              have b0 := cellRow hb6 0 (.string nm) rfl
              have b1 := cellRow hb6 1 (.string so) rfl
              have b2 := cellRow hb6 2 (.string nm) rfl
              have b3 := cellRow hb6 3 (.string so) rfl
              have b4 := cellRow hb6 4 (.slice none 0 0) rfl
              have fb := fun i => frozenRow hb6 i
              have hb7 := setBlock (setBlock (setBlock hb6 2 (.string t5.name)) 3 (.string t5.sort)) 4 (.slice ya t5.kids.length yc)
              have hu7 : Upd (fun j => j = wN.heap.size) w6 (((w6.setCell ⟨wN.heap.size, 2, none⟩ (.string t5.name)).setCell ⟨wN.heap.size, 3, none⟩ (.string t5.sort)).setCell ⟨wN.heap.size, 4, none⟩ (.slice ya t5.kids.length yc)) :=
                (((Upd.refl (fun j => j = wN.heap.size) w6).setCell (p := ⟨wN.heap.size, 2, none⟩) (.inl rfl) _).setCell (p := ⟨wN.heap.size, 3, none⟩) (.inl rfl) _).setCell (p := ⟨wN.heap.size, 4, none⟩) (.inl rfl) _
              have HB7 : Hid ((((w6.setCell ⟨wN.heap.size, 2, none⟩ (.string t5.name)).setCell ⟨wN.heap.size, 3, none⟩ (.string t5.sort)).setCell ⟨wN.heap.size, 4, none⟩ (.slice ya t5.kids.length yc)).heap[wN.heap.size]? = some (.cells #[.string nm, .string so, .string t5.name, .string t5.sort, .slice ya t5.kids.length yc] 93 (0, 0))) := Lib.hid (by simpa using hb7)
              have HU7W := Lib.hid hu7
              clear hT5 hb5 hw6 hb6 hb7 hu7 HVX ht5
              go_upto_region 30 with fail
              generalize (((w6.setCell ⟨wN.heap.size, 2, none⟩ (.string t5.name)).setCell ⟨wN.heap.size, 3, none⟩ (.string t5.sort)).setCell ⟨wN.heap.size, 4, none⟩ (.slice ya t5.kids.length yc)) = w7x at *
              clear b0 b1 b2 b3 b4 fb
              obtain ⟨nb, hnb⟩ : ∃ n, wN.heap.size = n := ⟨_, rfl⟩
              rw [hnb] at HB7 HU7W HB6 HJN HSN ⊢
              have hfnb := HFS.out nb (by have := HSN.out; omega)
              have hftb := (HFS.out rj (Nat.le_refl _)).2.2.1
              have HM7 := HU7W.out.heap (HX7.out.heap HBN.out (fun h => h)) (fun e => by have := hfnb.2.2.1; omega)
              have HR7 := HU7W.out.heap (HX7.out.heap HRN.out (fun h => h)) (fun e => by have := HSN.out; omega)
              have HU7 : Hid (Us' T ad S 121 108 bv bn ub [] bkC st4 w4 w7x) := Lib.hid (Us'.outside HU6.out HU7W.out (fun j hj e => hfnb.1 (by rw [← e]; exact hj)) (fun j hj e => by have := hfnb.2.1; omega))
              have hkin : nm ∈ (lk.map fun x => (x.1.1, Value.agg (beEnc x).toArray)).map (·.1) := by
                rw [List.map_map]
                exact List.mem_map.2 ⟨_, HXM.out, rfl⟩
              obtain ⟨W2, es2, hput0, hm2, he2, hbo2, hu2⟩ := MpR.upd (P := Tryz.prog) (t := 98) (strKey Tryz.underlying9) Tryz.underlying98 HM7 (l := lk.map fun x => (x.1.1, Value.agg (beEnc x).toArray)) (by rw [HEK.out, List.map_map]; rfl) nm (.agg #[.string nm, .string so, .string t5.name, .string t5.sort, .slice ya t5.kids.length yc]) hkin
              have hput : (Instr.mapUpdate 98 (.map (some tb)) (.string nm) (.agg #[.string nm, .string so, .string t5.name, .string t5.sort, .slice ya t5.kids.length yc])).run Tryz.prog w7x = .ok () W2 := hput0
              obtain ⟨x', hx'⟩ : ∃ x' : Be, x' = ((nm, so, t5), ya, t5.kids.length, yc) := ⟨_, rfl⟩
              have HE2 : Hid (es2.toList.map (fun e => (e.key, e.val)) = (putB lk x').map (fun x => (Value.string x.1.1, Value.agg (beEnc x).toArray))) := Lib.hid (by
                have h1 := putB_aput lk x'
                have h2 := congrArg (List.map fun p : By × Value => (Value.string p.1, p.2)) h1
                rw [List.map_map] at h2
                rw [he2, hx']
                rw [hx'] at h2
                exact h2.symm)
              have HBO2 : Hid (es2.toList.map (·.born) = es.toList.map (·.born)) := Lib.hid (by rw [hbo2]; exact HBO.out)
              have hnin : x'.1.1 ∈ lk.map fun x => x.1.1 := by rw [hx']; exact List.mem_map.2 ⟨_, HXM.out, rfl⟩
              have HNK2 : Hid ((putB lk x').map (fun x => x.1.1) = (tbOf VL).map fun x => x.1.1) := Lib.hid (by rw [putB_names_in hnin]; exact HNK.out)
              have HV2 : Hid (SnI es2.toList (seen.push e.born) (D ++ [nm])) := Lib.hid (HVN.out.alike (key_born (by
                have h1 := congrArg (List.map Prod.fst) HEK.out
                have h2 := congrArg (List.map Prod.fst) HE2.out
                rw [List.map_map, List.map_map] at h1 h2
                have h3 := congrArg (List.map Value.string) (putB_names_in hnin)
                rw [List.map_map, List.map_map] at h3
                exact h1.trans (h3.symm.trans h2.symm)) (by rw [hbo2])))
              have HLT2 : Hid ((leftOf es2 (seen.push e.born)).size < (leftOf es' seen).size) := Lib.hid (by rw [left_size hbo2]; exact HLT.out)
              have HU2 : Hid (Us' T ad S 121 108 bv bn ub [] bkC st4 w4 W2) := Lib.hid (Us'.outside HU7.out hu2 (fun j hj e => by
                rcases hj with hj | hj | hj
                · exact HNFC.out tb (Nat.le_refl _) HT9.out.2.1 (by rw [← e]; exact hj)
                · have := HSS.out j hj; have := HS4.out; have := HT9.out.1; omega
                · have := HS4.out; have := HT9.out.1; omega) (fun j hj e => by have := HT9.out.1; omega))
              have HR2' : Hid (W2.heap[rj]? = some (.mapIter (some tb) clock (seen.push e.born) clock)) := Lib.hid (hu2.heap HR7 (fun e => by omega))
              have HM2 := Lib.hid hm2
              have hsz : wN.heap.size ≤ W2.heap.size := Nat.le_trans HX7.out.size (Nat.le_trans HU7W.out.size hu2.size)
              have HS2 : Hid (rj + 1 ≤ W2.heap.size) := Lib.hid (Nat.le_trans HSN.out (by rw [← hnb]; exact hsz))
              have HJ2 : Hid (∀ x ∈ putB lk x', ∃ v ∈ VL, x.1.1 = v.1 ∧ ((x.1.1 ∉ D ++ [nm] ∧ x = vaBe v) ∨ (x.1.1 ∈ D ++ [nm] ∧ x.1 = (v.1, v.2, τ v) ∧ TlR (fun j => rj + 1 ≤ j ∧ j < W2.heap.size) W2 (τ v).kids (beV x)))) := Lib.hid (fun z hz => by
                rcases (putB_mem HNN'.out z).1 hz with e | ⟨hz1, hz2⟩
                · subst e
                  refine ⟨(nm, so), HVM.out, by rw [hx'], .inr ⟨by rw [hx']; simp, by rw [hx', HT5Q.out], ?_⟩⟩
                  rw [HT5Q.out, hx']
                  exact ((HT6.out.kept HU7W.out (fun j hj e => by have := (HB6.out j hj).1; omega)).kept hu2 (fun j hj e => by have := (HB6.out j hj).1; have := HSN.out; omega)).weaken (fun j hj => ⟨by have := (HB6.out j hj).1; have := HSN.out; omega, Nat.lt_of_lt_of_le (HB6.out j hj).2 (Nat.le_trans HU7W.out.size hu2.size)⟩)
                · obtain ⟨v, hv, h1, h2⟩ := HJN.out z hz1
                  have hzn : z.1.1 ≠ nm := fun e => hz2 (by rw [hx']; exact e)
                  refine ⟨v, hv, h1, ?_⟩
                  rcases h2 with ⟨h2, h3⟩ | ⟨h2, h3, h4⟩
                  · exact .inl ⟨by simp [h2, hzn], h3⟩
                  · exact .inr ⟨List.mem_append_left _ h2, h3, (((h4.kept HX7.out (fun _ _ h => h)).kept HU7W.out (fun j hj e => by omega)).kept hu2 (fun j hj e => by omega)).weaken (fun j hj => ⟨hj.1, by omega⟩)⟩)
              have e0 := cellRow HB7.out 0 (.string nm) rfl
              have e1 := cellRow HB7.out 1 (.string so) rfl
              have e2 := cellRow HB7.out 2 (.string t5.name) rfl
              have e3 := cellRow HB7.out 3 (.string t5.sort) rfl
              have e4 := cellRow HB7.out 4 (.slice ya t5.kids.length yc) rfl
              clear hput0 he2 hbo2 hm2 hu2 hkin hnin hsz HM7 HR7 hx' hfnb hftb hnb
              go_wp2_with fail
              have hlt := HLT2.out
              go_roundg (leftOf es2 (seen.push e.born)).size
              case measure => exact hlt
              case rel => exact ⟨D ++ [nm], _, es2, putB lk x', rfl, HR2', HM2, HU2, HS2, HV2, HE2, HBO2, HNK2, HJ2⟩
        · have hml := mem_left he
          obtain ⟨x, hx, hkv⟩ : ∃ x ∈ tbOf VL, (Value.string x.1.1, Value.agg (beEnc x).toArray) = (e.key, e.val) := by
            have h1 : (e.key, e.val) ∈ es.toList.map (fun e => (e.key, e.val)) := List.mem_map.2 ⟨e, hml.1, rfl⟩
            rw [HES.out, List.map_map] at h1
            obtain ⟨x, hx, h2⟩ := List.mem_map.1 h1
            exact ⟨x, hx, h2⟩
          obtain ⟨v, hvm, rfl⟩ := (HSP.out.2 x).1 hx
          obtain ⟨nm, so⟩ := v
          have hk : e.key = .string nm := by injection hkv with h1 _; exact h1.symm
          have hvv : e.val = .agg #[.string nm, .string so, .string nm, .string so, .slice none 0 0] := by injection hkv with _ h1; exact h1.symm
          have hso1 := HSO.out _ hvm
          obtain ⟨c, C, hfd, hvf, hcs, hz1, hz2, hvg, hts⟩ := HFI.out _ hvm
          have hrw : w1.heap[ri]? = some (.mapIter (some tb) clock seen clock) := by rcases hw1 with h | h <;> (rw [h]; exact HRI.out)
          have hu1 : Upd (fun j => j = ri) wr (Go.ChangeMaps.setBlock w1 ri (.mapIter (some tb) clock (seen.push e.born) clock)) := by
            have := upd_setBlock w1 ri (.mapIter (some tb) clock (seen.push e.born) clock)
            rcases hw1 with h | h
            · rw [h] at this ⊢; exact this
            · rw [h] at this ⊢; exact this.ofDrew
          have hr2 := heap_setBlock (o' := .mapIter (some tb) clock (seen.push e.born) clock) hrw
          rw [hk, hvv] at hrun
          generalize Go.ChangeMaps.setBlock w1 ri (.mapIter (some tb) clock (seen.push e.born) clock) = wN at *
          have HBN := Lib.hid (hu1.heap HBB.out (by have := HBL.out; omega))
          have hen := run_entry_at (P := Tryz.prog) wN ri tb clock seen es clock e hr2 HBN.out hml.1 HND.out
          rw [hk, hvv] at hen
          have hnx : ∀ ty, (Instr.next (.pointer (some ⟨ri, 0, none⟩)) false ty).run Tryz.prog wr = _ := fun _ => hrun
          have HUN : Hid (Us' T ad S 121 108 bv bn ub [] bkC st4 w4 wN) := Lib.hid (Us'.outside HU.out hu1 (fun j hj e => (HFR.out ri (Nat.le_refl _)).1 (by rw [← e]; exact hj)) (fun j hj e => by have := (HFR.out ri (Nat.le_refl _)).2.1; omega))
          have HRN := Lib.hid hr2
          have HVN := Lib.hid (HV.out.next HNE.out HSP.out.1 HND.out hml.1 hml.2 hk)
          have HLT := Lib.hid (left_shrinks es seen e he)
          have HSN : Hid (ri + 1 ≤ wN.heap.size) := Lib.hid (Nat.le_trans HSR.out hu1.size)
          have hb5 := alloc0 wN (.cells #[.string nm, .string so, .string nm, .string so, .slice none 0 0] 93)
          have hX5 := (Upd.refl (fun _ => False) wN).alloc (.cells #[.string nm, .string so, .string nm, .string so, .slice none 0 0] 93)
          have HUX := Lib.hid (HUN.out.ext hX5)
          have HCS := Lib.hid hcs
          have HCL := Lib.hid (clsv_same F c wN.heap.size 2 nm so none 0 0 HUX.out.ur (cellRow hb5 2 _ rfl) (cellRow hb5 3 _ rfl) (cellRow hb5 4 _ rfl) (fun h => by have := HUN.out.ur.us.lt _ h; omega) hso1 hfd hvf).2
          have HX5 := Lib.hid hX5
          have t1 : decide ((1000 : Int) < (C.sz : Int)) = false := decide_eq_false (by omega)
          have t2 : decide ((60 : Int) < (C.dp : Int)) = false := decide_eq_false (by omega)
          have t3 : ¬ ((1000 : Int) < (C.sz : Int)) := by omega
          have t4 : ¬ ((60 : Int) < (C.dp : Int)) := by omega
          clear hml hk hvv hrw hu1 hr2 he hw1 hkv hb5 hX5 hso1 hfd hvf hcs hz1 hz2 hvg hts hvm hx
          go_wp2_with fail
          refine HCL.out.mono ?_
          rintro e2 w5 ⟨rfl, hw5⟩
          have HU5 := Lib.hid (HUX.out.ext hw5)
          have HX6 := Lib.hid (HX5.out.trans hw5)
          have HR6 := Lib.hid (HX6.out.heap HRN.out (fun h => h))
          have HM6 := Lib.hid (HX6.out.heap HBN.out (fun h => h))
          have HS6 : Hid (ri + 1 ≤ w5.heap.size) := Lib.hid (Nat.le_trans HSN.out HX6.out.size)
          have hcr := HU5.out.ur.us.row c C HCS.out
          have c6 := cellRow hcr 6 (.int .i64 (C.sz : Int)) rfl
          have c7 := cellRow hcr 7 (.int .i64 (C.dp : Int)) rfl
          clear hw5 hnx hrun hen HCL hcr
          go_wp2_with fail
          have hlt := HLT.out
          go_roundg (leftOf es (seen.push e.born)).size
          case measure => exact hlt
          case rel => exact ⟨D ++ [nm], _, rfl, HR6, HM6, HU5, HS6, HVN⟩


end Go.Proofs.YtlkcjmaiahnodaaGreatDoor

/- Same, over bindings. -/
namespace Go.Proofs.YtlkcjmaiahnodaaGreatDoor
open Go.RowKit Go.Hw Go
set_option linter.unusedVariables false
set_option linter.unusedSimpArgs false

open Tm Go.Sort Go.Proofs Go.ChangeMaps
theorem bg_ext {L M : List Bd} (hl : L.length = M.length) (h : ∀ j, j < L.length → Go.Hw.bg L j = Go.Hw.bg M j) : L = M := by
  refine List.ext_getElem hl (fun i h1 h2 => ?_)
  have := h i h1
  unfold Go.Hw.bg at this
  rw [List.getD_eq_getElem?_getD, List.getD_eq_getElem?_getD, List.getElem?_eq_getElem h1, List.getElem?_eq_getElem h2] at this
  exact this
set_option maxRecDepth 100000 in
set_option maxHeartbeats 2000000 in
theorem rsameB_x (L M : List Bd) (v v' : Value) (R S R' S' : Nat → Prop) (w : World) (h : BnR R S w v L) (h' : BnR R' S' w v' M) (hsz : ∀ x ∈ L, x.2.2.size ≤ 1000000) (hln : L.length ≤ 1000000) :
    Calls Tryz.prog 19 #[v, v'] w fun e w' => e = .returned (.bool (decide (L = M))) ∧ Ext w w' := by
  have H1 := Lib.hid h
  have H2 := Lib.hid h'
  obtain ⟨a1, c1, rfl⟩ := h.shape
  obtain ⟨a2, c2, rfl⟩ := h'.shape
  have HSZ := Lib.hid hsz
  clear h h' hsz
  obtain ⟨RR, hRR⟩ : ∃ b, decide (L = M) = b := ⟨_, rfl⟩
  have HRR := Lib.hid hRR
  rw [hRR]
  clear hRR
  by_cases hl : L.length = M.length
  rotate_left
  · have z2 : ((L.length : Int) != (M.length : Int)) = true := by rw [bne_iff_ne]; intro h; exact hl (by omega)
    have hr : RR = false := by rw [← HRR.out, decide_eq_false_iff_not]; intro e; rw [e] at hl; exact hl rfl
    subst hr
    go_enter Tryz.func19, Tryz.ntmps19
    go_wp2_with fail
    go_ret
    exact ⟨rfl, Upd.refl _ _⟩
  have HL := Lib.hid hl
  have z2 : ((L.length : Int) != (M.length : Int)) = false := by rw [hl]; simp
  clear hl
  go_enter Tryz.func19, Tryz.ntmps19
  go_wp2_with fail
  clear z2
  go_loopg [5] L.length (fun gk iv wr => ∃ k : Nat, iv = .int .i64 (k : Int) ∧ gk = L.length - k ∧ k ≤ L.length ∧ Hid (∀ j, j < k → Go.Hw.bg L j = Go.Hw.bg M j) ∧ Hid (Ext w wr))
  case atStart => exact ⟨0, rfl, rfl, Nat.zero_le _, Lib.hid (fun j hj => absurd hj (Nat.not_lt_zero _)), Lib.hid (Upd.refl _ _)⟩
  case round =>
    obtain ⟨k, rfl, rfl, hk, HQ, HE⟩ := hrel
    by_cases hlt : k < L.length
    · have hlt2 : k < M.length := by rw [← HL.out]; exact hlt
      obtain ⟨g, o, rfl, _, hat⟩ := (H1.out.ext HE.out).at_ (by omega)
      obtain ⟨g', o', rfl, _, hat'⟩ := (H2.out.ext HE.out).at_ (by omega)
      obtain ⟨ka, kc, p0, p1, p2, p3, p4, hT⟩ := hat k hlt
      obtain ⟨ka', kc', q0, q1, q2, q3, q4, hT'⟩ := hat' k hlt2
      have hbm := HSZ.out _ (bg_mem hlt)
      obtain ⟨x, hx⟩ : ∃ x, Go.Hw.bg L k = x := ⟨_, rfl⟩
      obtain ⟨y, hy⟩ : ∃ y, Go.Hw.bg M k = y := ⟨_, rfl⟩
      rw [hx] at p0 p1 p2 p3 p4 hT hbm
      rw [hy] at q0 q1 q2 q3 q4 hT'
      obtain ⟨n1, s1, t1⟩ := x
      obtain ⟨n2, s2, t2⟩ := y
      simp only at p0 p1 p2 p3 p4 hT hbm q0 q1 q2 q3 q4 hT'
      have HXY := Lib.hid (And.intro hx hy)
      have HSM := Lib.hid (fun W (hW : Ext wr W) => same_x t1 t2 _ _ S S' W ⟨ka, kc, rfl, hT.ext hW⟩ ⟨ka', kc', rfl, hT'.ext hW⟩ hbm)
      dsimp only [tV] at HSM
      have z0 : (0 : Int) ≤ (k : Int) := by omega
      have z1 : (k : Int) < (L.length : Int) := by omega
      have z1' : (k : Int) < (M.length : Int) := by omega
      have z2 : decide ((k : Int) < (L.length : Int)) = true := decide_eq_true z1
      have z2' : decide (k < L.length) = true := decide_eq_true hlt
      have d1 := str_dc n1 n2
      have d2 := str_dc s1 s2
      have hfalse : (n1, s1, t1) ≠ (n2, s2, t2) → RR = false := fun hne => by
        rw [← HRR.out, decide_eq_false_iff_not]
        intro e
        rw [e] at HXY
        exact hne (HXY.out.1.symm.trans HXY.out.2)
      have HFL := Lib.hid hfalse
      clear hat hat' hT hT' hbm hx hy hfalse
      by_cases e1 : n1 = n2
      rotate_left
      · rw [decide_eq_false e1] at d1
        have hr := HFL.out (fun e => e1 (Prod.mk.inj e).1)
        subst hr
        clear e1 d2 HSM
        go_wp2_with fail
        go_quiet (fail)
        go_wp2_with fail
        go_ret
        exact ⟨rfl, HE.out.drewN' _⟩
      rw [decide_eq_true e1] at d1
      by_cases e2 : s1 = s2
      rotate_left
      · rw [decide_eq_false e2] at d2
        have hr := HFL.out (fun e => e2 (Prod.mk.inj (Prod.mk.inj e).2).1)
        subst hr
        clear e1 e2 HSM
        go_wp2_with fail
        go_quiet (fail)
        go_wp2_with fail
        go_ret
        exact ⟨rfl, HE.out.drewN' _⟩
      rw [decide_eq_true e2] at d2
      have HN := Lib.hid (And.intro e1 e2)
      clear e1 e2
      go_wp2_with fail
      refine region_quiet_tail 35 (by kernel_rfl) (by kernel_rfl) ?_
      simp only [List.take_succ_cons, List.take_zero, List.drop_succ_cons, List.drop_zero]
      repeat (go_big_quiet_step (fail))
      refine wpQuiet_nil ?_
      change wpList _ _ _ _ _ wr.drew
      go_wp2_with fail
      refine (HSM.out wr.drew (Upd.refl _ wr).drew).mono ?_
      rintro e w5 ⟨rfl, hw5⟩
      have HE5 := Lib.hid (HE.out.drew.trans hw5)
      clear hw5 HSM p0 p1 p2 p3 p4 q0 q1 q2 q3 q4
      by_cases e3 : t1 = t2
      · rw [decide_eq_true e3]
        have HQ2 : Hid (∀ j, j < k + 1 → Go.Hw.bg L j = Go.Hw.bg M j) := Lib.hid (fun j hj => by
          by_cases hjk : j < k
          · exact HQ.out j hjk
          · obtain rfl : j = k := by omega
            rw [HXY.out.1, HXY.out.2, HN.out.1, HN.out.2, e3])
        clear e3
        go_wp2_with fail
        go_roundg (L.length - (k + 1))
        case measure => omega
        case rel => exact ⟨k + 1, by go_num, rfl, by omega, HQ2, HE5⟩
      · rw [decide_eq_false e3]
        have hr := HFL.out (fun e => e3 (Prod.mk.inj (Prod.mk.inj e).2).2)
        subst hr
        clear e3
        go_wp2_with fail
        go_ret
        exact ⟨rfl, HE5.out⟩
    · obtain rfl : k = L.length := by omega
      have z2 : decide ((L.length : Int) < (L.length : Int)) = false := decide_eq_false (by omega)
      have hr : RR = true := by rw [← HRR.out, decide_eq_true_eq]; exact bg_ext HL.out HQ.out
      subst hr
      go_wp2_with fail
      go_ret
      exact ⟨rfl, HE.out⟩

end Go.Proofs.YtlkcjmaiahnodaaGreatDoor

/- The functions of the examples. -/
namespace Go.Proofs.YtlkcjmaiahnodaaGreatDoor
open Go.RowKit Go.Hw Go
set_option linter.unusedVariables false
set_option linter.unusedSimpArgs false

open Tm
set_option maxRecDepth 100000 in
set_option maxHeartbeats 2000000 in
theorem ex58_x (n1 s1 : By) (a1 : Option Addr) (k1 c1 : Nat) (w : World) : Calls Tryz.prog 58 #[.agg #[.string n1, .string s1, .slice a1 k1 c1]] w fun e w' => ∃ b, e = .returned (.agg #[.string ⟨#[103]⟩, .string ⟨#[]⟩, .slice (some ⟨b, 0, none⟩) 1 1]) ∧ w'.heap[b]? = some (.cells #[.string n1, .string s1, .slice a1 k1 c1] 24 (0, 0)) ∧ w.heap.size ≤ b ∧ Ext w w' := by
  go_enter Tryz.func58, Tryz.ntmps58
  go_wp2_with fail
  have hA := ((((Upd.refl (fun _ => False) w).alloc (.cells #[.string n1, .string s1, .slice a1 k1 c1] 24)).alloc (.cells #[.string ⟨#[103]⟩, .string ⟨#[]⟩, .slice (some ⟨w.heap.size + 1 + 1, 0, none⟩) 1 1] 24)).alloc (.cells #[.string n1, .string s1, .slice a1 k1 c1] 24))
  have hb1 := allocOld (alloc_at (w.alloc (.cells #[.string n1, .string s1, .slice a1 k1 c1] 24)) (.cells #[.string ⟨#[103]⟩, .string ⟨#[]⟩, .slice (some ⟨w.heap.size + 1 + 1, 0, none⟩) 1 1] 24) (n := w.heap.size + 1) (by simp)) (.cells #[.string n1, .string s1, .slice a1 k1 c1] 24)
  have hb2 := alloc_at ((w.alloc (.cells #[.string n1, .string s1, .slice a1 k1 c1] 24)).alloc (.cells #[.string ⟨#[103]⟩, .string ⟨#[]⟩, .slice (some ⟨w.heap.size + 1 + 1, 0, none⟩) 1 1] 24)) (.cells #[.string n1, .string s1, .slice a1 k1 c1] 24) (n := w.heap.size + 2) (by simp)
  have e0 := cellRow hb1 0 _ rfl
  have e1 := cellRow hb1 1 _ rfl
  have e2 := cellRow hb1 2 _ rfl
  exact bodyPost_ret (v := .agg #[.string ⟨#[103]⟩, .string ⟨#[]⟩, .slice (some ⟨w.heap.size + 1 + 1, 0, none⟩) 1 1]) (by simp [results, Tryz.results58, go_sem, e0, e1, e2]) rfl ⟨w.heap.size + 1 + 1, rfl, hb2, by omega, hA⟩
set_option maxRecDepth 100000 in
set_option maxHeartbeats 2000000 in
theorem ex59_x (n1 s1 : By) (a1 : Option Addr) (k1 c1 : Nat) (n2 s2 : By) (a2 : Option Addr) (k2 c2 : Nat) (w : World) : Calls Tryz.prog 59 #[.agg #[.string n1, .string s1, .slice a1 k1 c1], .agg #[.string n2, .string s2, .slice a2 k2 c2]] w fun e w' => ∃ b, e = .returned (.agg #[.string ⟨#[102]⟩, .string ⟨#[]⟩, .slice (some ⟨b, 0, none⟩) 2 2]) ∧ w'.heap[b]? = some (.cells #[.string n1, .string s1, .slice a1 k1 c1, .string n2, .string s2, .slice a2 k2 c2] 24 (0, 0)) ∧ w.heap.size ≤ b ∧ Ext w w' := by
  go_enter Tryz.func59, Tryz.ntmps59
  go_wp2_with fail
  have hA := (((((Upd.refl (fun _ => False) w).alloc (.cells #[.string n1, .string s1, .slice a1 k1 c1] 24)).alloc (.cells #[.string n2, .string s2, .slice a2 k2 c2] 24)).alloc (.cells #[.string ⟨#[102]⟩, .string ⟨#[]⟩, .slice (some ⟨w.heap.size + 1 + 1 + 1, 0, none⟩) 2 2] 24)).alloc (.cells #[.string n1, .string s1, .slice a1 k1 c1, .string n2, .string s2, .slice a2 k2 c2] 24))
  have hb1 := allocOld (alloc_at ((w.alloc (.cells #[.string n1, .string s1, .slice a1 k1 c1] 24)).alloc (.cells #[.string n2, .string s2, .slice a2 k2 c2] 24)) (.cells #[.string ⟨#[102]⟩, .string ⟨#[]⟩, .slice (some ⟨w.heap.size + 1 + 1 + 1, 0, none⟩) 2 2] 24) (n := w.heap.size + 2) (by simp)) (.cells #[.string n1, .string s1, .slice a1 k1 c1, .string n2, .string s2, .slice a2 k2 c2] 24)
  have hb2 := alloc_at (((w.alloc (.cells #[.string n1, .string s1, .slice a1 k1 c1] 24)).alloc (.cells #[.string n2, .string s2, .slice a2 k2 c2] 24)).alloc (.cells #[.string ⟨#[102]⟩, .string ⟨#[]⟩, .slice (some ⟨w.heap.size + 1 + 1 + 1, 0, none⟩) 2 2] 24)) (.cells #[.string n1, .string s1, .slice a1 k1 c1, .string n2, .string s2, .slice a2 k2 c2] 24) (n := w.heap.size + 3) (by simp)
  have e0 := cellRow hb1 0 _ rfl
  have e1 := cellRow hb1 1 _ rfl
  have e2 := cellRow hb1 2 _ rfl
  exact bodyPost_ret (v := .agg #[.string ⟨#[102]⟩, .string ⟨#[]⟩, .slice (some ⟨w.heap.size + 1 + 1 + 1, 0, none⟩) 2 2]) (by simp [results, Tryz.results59, go_sem, e0, e1, e2]) rfl ⟨w.heap.size + 1 + 1 + 1, rfl, hb2, by omega, hA⟩

abbrev exx : Tm := .mk ⟨#[120]⟩ ⟨#[115]⟩ []
abbrev exy : Tm := .mk ⟨#[121]⟩ ⟨#[115]⟩ []
abbrev exz : Tm := .mk ⟨#[122]⟩ ⟨#[115]⟩ []
abbrev exg (t : Tm) : Tm := .mk ⟨#[103]⟩ nul [t]
abbrev exf (s t : Tm) : Tm := .mk ⟨#[102]⟩ nul [s, t]
theorem one_tl {S : Nat → Prop} {W : World} {n : Nat} {a : Tm} {ua : Value} (h : W.heap[n]? = some (.cells #[.string a.name, .string a.sort, ua] 24 (0, 0))) (hn : S n) (ha : TlR S W a.kids ua) : TlR S W [a] (.slice (some ⟨n, 0, none⟩) 1 1) := by
  refine .mk _ [ua] _ rfl ?_ (fun i hi => ?_)
  · refine SlR.mk' rfl rfl (Nat.le_refl _) (fun _ => hn) (fun j hj => ?_)
    have hj3 : j < 3 := hj
    rw [Nat.zero_add, cell_of_row W n j _ _ _ h]
    have : j = 0 ∨ j = 1 ∨ j = 2 := by omega
    rcases this with rfl | rfl | rfl <;> rfl
  · obtain rfl : i = 0 := by simpa using hi
    exact ha
theorem exk_tl {S : Nat → Prop} {W : World} {n : Nat} {a b : Tm} {ua ub : Value} (h : W.heap[n]? = some (.cells #[.string a.name, .string a.sort, ua, .string b.name, .string b.sort, ub] 24 (0, 0))) (hn : S n) (ha : TlR S W a.kids ua) (hb : TlR S W b.kids ub) : TlR S W [a, b] (.slice (some ⟨n, 0, none⟩) 2 2) := pair_tl h hn ha hb
def exoT : List Nr := [⟨⟨#[102]⟩, ⟨#[]⟩, [2, 3]⟩, ⟨⟨#[102]⟩, ⟨#[]⟩, [4, 5]⟩, ⟨⟨#[120]⟩, ⟨#[115]⟩, []⟩, ⟨⟨#[103]⟩, ⟨#[]⟩, [6]⟩, ⟨⟨#[103]⟩, ⟨#[]⟩, [7]⟩, ⟨⟨#[120]⟩, ⟨#[115]⟩, []⟩, ⟨⟨#[121]⟩, ⟨#[115]⟩, []⟩, ⟨⟨#[122]⟩, ⟨#[115]⟩, []⟩]
def exoA (b1 b2 b3 b4 ba bb : Nat) : Nat → Nat × Nat
  | 0 => (ba, 0)
  | 1 => (bb, 0)
  | 2 => (b1, 0)
  | 3 => (b1, 3)
  | 4 => (b2, 0)
  | 5 => (b2, 3)
  | 6 => (b3, 0)
  | 7 => (b4, 0)
  | _ => (0, 0)
theorem exo_nd {W : World} {b1 b2 b3 b4 ba bb : Nat} (hd : b1 ≠ b2 ∧ b1 ≠ b3 ∧ b1 ≠ b4 ∧ b1 ≠ ba ∧ b1 ≠ bb ∧ b2 ≠ b3 ∧ b2 ≠ b4 ∧ b2 ≠ ba ∧ b2 ≠ bb ∧ b3 ≠ b4 ∧ b3 ≠ ba ∧ b3 ≠ bb ∧ b4 ≠ ba ∧ b4 ≠ bb ∧ ba ≠ bb) (hb1 : W.heap[b1]? = some (.cells #[.string ⟨#[120]⟩, .string ⟨#[115]⟩, .slice none 0 0, .string ⟨#[103]⟩, .string ⟨#[]⟩, .slice (some ⟨b3, 0, none⟩) 1 1] 24 (0, 0))) (hb2 : W.heap[b2]? = some (.cells #[.string ⟨#[103]⟩, .string ⟨#[]⟩, .slice (some ⟨b4, 0, none⟩) 1 1, .string ⟨#[120]⟩, .string ⟨#[115]⟩, .slice none 0 0] 24 (0, 0))) (hb3 : W.heap[b3]? = some (.cells #[.string ⟨#[121]⟩, .string ⟨#[115]⟩, .slice none 0 0] 24 (0, 0))) (hb4 : W.heap[b4]? = some (.cells #[.string ⟨#[122]⟩, .string ⟨#[115]⟩, .slice none 0 0] 24 (0, 0))) (hba : W.heap[ba]? = some (.cells #[.string ⟨#[102]⟩, .string ⟨#[]⟩, .slice (some ⟨b1, 0, none⟩) 2 2] 24 (0, 0))) (hbb : W.heap[bb]? = some (.cells #[.string ⟨#[102]⟩, .string ⟨#[]⟩, .slice (some ⟨b2, 0, none⟩) 2 2] 24 (0, 0))) : NdR exoT (exoA b1 b2 b3 b4 ba bb) (fun k => k = b1 ∨ k = b2 ∨ k = b3 ∨ k = b4 ∨ k = ba ∨ k = bb) W := by
  refine ⟨fun i j hi hj e => ?_, fun i hi => ?_, fun i r hr => ?_⟩
  · have hi' : i < 8 := hi
    have hj' : j < 8 := hj
    rcases (by omega : i = 0 ∨ i = 1 ∨ i = 2 ∨ i = 3 ∨ i = 4 ∨ i = 5 ∨ i = 6 ∨ i = 7) with rfl | rfl | rfl | rfl | rfl | rfl | rfl | rfl <;> rcases (by omega : j = 0 ∨ j = 1 ∨ j = 2 ∨ j = 3 ∨ j = 4 ∨ j = 5 ∨ j = 6 ∨ j = 7) with rfl | rfl | rfl | rfl | rfl | rfl | rfl | rfl <;> first | rfl | (simp only [exoA, Prod.mk.injEq] at e; omega)
  · have hi' : i < 8 := hi
    rcases (by omega : i = 0 ∨ i = 1 ∨ i = 2 ∨ i = 3 ∨ i = 4 ∨ i = 5 ∨ i = 6 ∨ i = 7) with rfl | rfl | rfl | rfl | rfl | rfl | rfl | rfl
    · exact ⟨⟨_, _, hba⟩, by simp [exoA]⟩
    · exact ⟨⟨_, _, hbb⟩, by simp [exoA]⟩
    · exact ⟨⟨_, _, hb1⟩, by simp [exoA]⟩
    · exact ⟨⟨_, _, hb1⟩, by simp [exoA]⟩
    · exact ⟨⟨_, _, hb2⟩, by simp [exoA]⟩
    · exact ⟨⟨_, _, hb2⟩, by simp [exoA]⟩
    · exact ⟨⟨_, _, hb3⟩, by simp [exoA]⟩
    · exact ⟨⟨_, _, hb4⟩, by simp [exoA]⟩
  · have hi' : i < 8 := (List.getElem?_eq_some_iff.1 hr).1
    rcases (by omega : i = 0 ∨ i = 1 ∨ i = 2 ∨ i = 3 ∨ i = 4 ∨ i = 5 ∨ i = 6 ∨ i = 7) with rfl | rfl | rfl | rfl | rfl | rfl | rfl | rfl <;> (injection hr with hr; subst hr)
    · refine ⟨cellRow hba 0 _ rfl, cellRow hba 1 _ rfl, _, _, cellRow hba 2 _ rfl, fun _ => ⟨b1, 0, rfl, fun j q hq => ?_⟩⟩
      have hj : j < 2 := (List.getElem?_eq_some_iff.1 hq).1
      rcases (by omega : j = 0 ∨ j = 1) with rfl | rfl <;> (injection hq with hq; subst hq; exact ⟨by decide, rfl⟩)
    · refine ⟨cellRow hbb 0 _ rfl, cellRow hbb 1 _ rfl, _, _, cellRow hbb 2 _ rfl, fun _ => ⟨b2, 0, rfl, fun j q hq => ?_⟩⟩
      have hj : j < 2 := (List.getElem?_eq_some_iff.1 hq).1
      rcases (by omega : j = 0 ∨ j = 1) with rfl | rfl <;> (injection hq with hq; subst hq; exact ⟨by decide, rfl⟩)
    · refine ⟨cellRow hb1 0 _ rfl, cellRow hb1 1 _ rfl, _, _, cellRow hb1 2 _ rfl, fun h => absurd h (by decide)⟩
    · refine ⟨cellRow hb1 3 _ rfl, cellRow hb1 4 _ rfl, _, _, cellRow hb1 5 _ rfl, fun _ => ⟨b3, 0, rfl, fun j q hq => ?_⟩⟩
      have hj : j < 1 := (List.getElem?_eq_some_iff.1 hq).1
      rcases (by omega : j = 0) with rfl <;> (injection hq with hq; subst hq; exact ⟨by decide, rfl⟩)
    · refine ⟨cellRow hb2 0 _ rfl, cellRow hb2 1 _ rfl, _, _, cellRow hb2 2 _ rfl, fun _ => ⟨b4, 0, rfl, fun j q hq => ?_⟩⟩
      have hj : j < 1 := (List.getElem?_eq_some_iff.1 hq).1
      rcases (by omega : j = 0) with rfl <;> (injection hq with hq; subst hq; exact ⟨by decide, rfl⟩)
    · refine ⟨cellRow hb2 3 _ rfl, cellRow hb2 4 _ rfl, _, _, cellRow hb2 5 _ rfl, fun h => absurd h (by decide)⟩
    · refine ⟨cellRow hb3 0 _ rfl, cellRow hb3 1 _ rfl, _, _, cellRow hb3 2 _ rfl, fun h => absurd h (by decide)⟩
    · refine ⟨cellRow hb4 0 _ rfl, cellRow hb4 1 _ rfl, _, _, cellRow hb4 2 _ rfl, fun h => absurd h (by decide)⟩
def extT : List Nr := [⟨⟨#[102]⟩, ⟨#[]⟩, [2, 3]⟩, ⟨⟨#[102]⟩, ⟨#[]⟩, [4, 5]⟩, ⟨⟨#[120]⟩, ⟨#[115]⟩, []⟩, ⟨⟨#[120]⟩, ⟨#[115]⟩, []⟩, ⟨⟨#[121]⟩, ⟨#[115]⟩, []⟩, ⟨⟨#[103]⟩, ⟨#[]⟩, [6]⟩, ⟨⟨#[121]⟩, ⟨#[115]⟩, []⟩]
def extA (b1 b2 b3 ba bb : Nat) : Nat → Nat × Nat
  | 0 => (ba, 0)
  | 1 => (bb, 0)
  | 2 => (b1, 0)
  | 3 => (b1, 3)
  | 4 => (b2, 0)
  | 5 => (b2, 3)
  | 6 => (b3, 0)
  | _ => (0, 0)
theorem ext_nd {W : World} {b1 b2 b3 ba bb : Nat} (hd : b1 ≠ b2 ∧ b1 ≠ b3 ∧ b1 ≠ ba ∧ b1 ≠ bb ∧ b2 ≠ b3 ∧ b2 ≠ ba ∧ b2 ≠ bb ∧ b3 ≠ ba ∧ b3 ≠ bb ∧ ba ≠ bb) (hb1 : W.heap[b1]? = some (.cells #[.string ⟨#[120]⟩, .string ⟨#[115]⟩, .slice none 0 0, .string ⟨#[120]⟩, .string ⟨#[115]⟩, .slice none 0 0] 24 (0, 0))) (hb2 : W.heap[b2]? = some (.cells #[.string ⟨#[121]⟩, .string ⟨#[115]⟩, .slice none 0 0, .string ⟨#[103]⟩, .string ⟨#[]⟩, .slice (some ⟨b3, 0, none⟩) 1 1] 24 (0, 0))) (hb3 : W.heap[b3]? = some (.cells #[.string ⟨#[121]⟩, .string ⟨#[115]⟩, .slice none 0 0] 24 (0, 0))) (hba : W.heap[ba]? = some (.cells #[.string ⟨#[102]⟩, .string ⟨#[]⟩, .slice (some ⟨b1, 0, none⟩) 2 2] 24 (0, 0))) (hbb : W.heap[bb]? = some (.cells #[.string ⟨#[102]⟩, .string ⟨#[]⟩, .slice (some ⟨b2, 0, none⟩) 2 2] 24 (0, 0))) : NdR extT (extA b1 b2 b3 ba bb) (fun k => k = b1 ∨ k = b2 ∨ k = b3 ∨ k = ba ∨ k = bb) W := by
  refine ⟨fun i j hi hj e => ?_, fun i hi => ?_, fun i r hr => ?_⟩
  · have hi' : i < 7 := hi
    have hj' : j < 7 := hj
    rcases (by omega : i = 0 ∨ i = 1 ∨ i = 2 ∨ i = 3 ∨ i = 4 ∨ i = 5 ∨ i = 6) with rfl | rfl | rfl | rfl | rfl | rfl | rfl <;> rcases (by omega : j = 0 ∨ j = 1 ∨ j = 2 ∨ j = 3 ∨ j = 4 ∨ j = 5 ∨ j = 6) with rfl | rfl | rfl | rfl | rfl | rfl | rfl <;> first | rfl | (simp only [extA, Prod.mk.injEq] at e; omega)
  · have hi' : i < 7 := hi
    rcases (by omega : i = 0 ∨ i = 1 ∨ i = 2 ∨ i = 3 ∨ i = 4 ∨ i = 5 ∨ i = 6) with rfl | rfl | rfl | rfl | rfl | rfl | rfl
    · exact ⟨⟨_, _, hba⟩, by simp [extA]⟩
    · exact ⟨⟨_, _, hbb⟩, by simp [extA]⟩
    · exact ⟨⟨_, _, hb1⟩, by simp [extA]⟩
    · exact ⟨⟨_, _, hb1⟩, by simp [extA]⟩
    · exact ⟨⟨_, _, hb2⟩, by simp [extA]⟩
    · exact ⟨⟨_, _, hb2⟩, by simp [extA]⟩
    · exact ⟨⟨_, _, hb3⟩, by simp [extA]⟩
  · have hi' : i < 7 := (List.getElem?_eq_some_iff.1 hr).1
    rcases (by omega : i = 0 ∨ i = 1 ∨ i = 2 ∨ i = 3 ∨ i = 4 ∨ i = 5 ∨ i = 6) with rfl | rfl | rfl | rfl | rfl | rfl | rfl <;> (injection hr with hr; subst hr)
    · refine ⟨cellRow hba 0 _ rfl, cellRow hba 1 _ rfl, _, _, cellRow hba 2 _ rfl, fun _ => ⟨b1, 0, rfl, fun j q hq => ?_⟩⟩
      have hj : j < 2 := (List.getElem?_eq_some_iff.1 hq).1
      rcases (by omega : j = 0 ∨ j = 1) with rfl | rfl <;> (injection hq with hq; subst hq; exact ⟨by decide, rfl⟩)
    · refine ⟨cellRow hbb 0 _ rfl, cellRow hbb 1 _ rfl, _, _, cellRow hbb 2 _ rfl, fun _ => ⟨b2, 0, rfl, fun j q hq => ?_⟩⟩
      have hj : j < 2 := (List.getElem?_eq_some_iff.1 hq).1
      rcases (by omega : j = 0 ∨ j = 1) with rfl | rfl <;> (injection hq with hq; subst hq; exact ⟨by decide, rfl⟩)
    · refine ⟨cellRow hb1 0 _ rfl, cellRow hb1 1 _ rfl, _, _, cellRow hb1 2 _ rfl, fun h => absurd h (by decide)⟩
    · refine ⟨cellRow hb1 3 _ rfl, cellRow hb1 4 _ rfl, _, _, cellRow hb1 5 _ rfl, fun h => absurd h (by decide)⟩
    · refine ⟨cellRow hb2 0 _ rfl, cellRow hb2 1 _ rfl, _, _, cellRow hb2 2 _ rfl, fun h => absurd h (by decide)⟩
    · refine ⟨cellRow hb2 3 _ rfl, cellRow hb2 4 _ rfl, _, _, cellRow hb2 5 _ rfl, fun _ => ⟨b3, 0, rfl, fun j q hq => ?_⟩⟩
      have hj : j < 1 := (List.getElem?_eq_some_iff.1 hq).1
      rcases (by omega : j = 0) with rfl <;> (injection hq with hq; subst hq; exact ⟨by decide, rfl⟩)
    · refine ⟨cellRow hb3 0 _ rfl, cellRow hb3 1 _ rfl, _, _, cellRow hb3 2 _ rfl, fun h => absurd h (by decide)⟩

def okFin (T : List Nr) (F : Nat) (vs : List Vd) (τ : Vd → Tm) (st : St) : Bool := vs.all fun v => (fnd st.vs v.1).isSome && (match varF F st v.1 v.2 with
  | none => false
  | some (_, c) => match st.cs[c]? with
    | none => false
    | some C => decide (C.sz ≤ 1000) && decide (C.dp ≤ 60) && decide (vaG T st F c = some (τ v)) && decide ((τ v).size ≤ 100000))
theorem okFin_spec {T : List Nr} {F : Nat} {vs : List Vd} {τ : Vd → Tm} {st : St} (h : okFin T F vs τ st = true) : ∀ v ∈ vs, ∃ c C, (fnd st.vs v.1).isSome = true ∧ varF F st v.1 v.2 = some (st, c) ∧ st.cs[c]? = some C ∧ C.sz ≤ 1000 ∧ C.dp ≤ 60 ∧ vaG T st F c = some (τ v) ∧ (τ v).size ≤ 100000 := fun v hv => by
  have h1 := List.all_eq_true.1 h v hv
  rw [Bool.and_eq_true] at h1
  obtain ⟨h1, h2⟩ := h1
  cases hf : varF F st v.1 v.2 with
  | none => rw [hf] at h2; cases h2
  | some q =>
    obtain ⟨s', c⟩ := q
    rw [hf] at h2
    simp only at h2
    cases hc : st.cs[c]? with
    | none => rw [hc] at h2; cases h2
    | some C =>
      rw [hc] at h2
      simp only [Bool.and_eq_true, decide_eq_true_eq] at h2
      have hs := varF_same h1 hf
      subst hs
      exact ⟨c, C, h1, rfl, hc, h2.1.1.1, h2.1.1.2, h2.1.2, h2.2⟩
def exoV : List Vd := varsT (exf exx (exg exy)) ++ varsT (exf (exg exz) exx)
def extV : List Vd := varsT (exf exx exx) ++ varsT (exf exy (exg exy))
def exoτ (v : Vd) : Tm := if v.1 = ⟨#[120]⟩ then exg exy else exy
theorem exo_ok : ((uRes exoT 20 exoV).bind id).any (fun st => okFin exoT 20 exoV exoτ st) = true := by decide +kernel
theorem ext_none : (match uRes extT 20 extV with | some none => true | _ => false) = true := by decide +kernel
theorem exo_wf : (wf nmB (exf exx (exg exy)) && wf nmB (exf (exg exz) exx) && wf nmB (exf exx exx) && wf nmB (exf exy (exg exy))) = true := by decide +kernel
theorem exo_v : exoV = [(⟨#[120]⟩, ⟨#[115]⟩), (⟨#[121]⟩, ⟨#[115]⟩), (⟨#[120]⟩, ⟨#[115]⟩), (⟨#[122]⟩, ⟨#[115]⟩)] := by decide +kernel
theorem ext_v : extV = [(⟨#[120]⟩, ⟨#[115]⟩), (⟨#[121]⟩, ⟨#[115]⟩)] := by decide +kernel

end Go.Proofs.YtlkcjmaiahnodaaGreatDoor

/- Unify at the examples. -/
namespace Go.Proofs.YtlkcjmaiahnodaaGreatDoor
open Go.RowKit Go.Hw Go
set_option linter.unusedVariables false
set_option linter.unusedSimpArgs false

open Tm Go.Sort Go.Proofs Go.ChangeMaps
theorem heap_ne {W : World} {a b : Nat} {o o' : Obj} (h : W.heap[a]? = some o) (h' : W.heap[b]? = some o') (hn : o ≠ o') : a ≠ b := fun e => by
  rw [e, h'] at h
  injection h with h
  exact hn h.symm
def exoL : List Bd := [(⟨#[120]⟩, ⟨#[115]⟩, exg exy), (⟨#[122]⟩, ⟨#[115]⟩, exy)]
set_option maxRecDepth 100000 in
set_option maxHeartbeats 2000000 in
theorem exo_x (W : World) (htab : AscT W) (b1 b2 b3 b4 : Nat) (h1 : W.heap[b1]? = some (.cells #[.string ⟨#[120]⟩, .string ⟨#[115]⟩, .slice none 0 0, .string ⟨#[103]⟩, .string ⟨#[]⟩, .slice (some ⟨b3, 0, none⟩) 1 1] 24 (0, 0))) (h2 : W.heap[b2]? = some (.cells #[.string ⟨#[103]⟩, .string ⟨#[]⟩, .slice (some ⟨b4, 0, none⟩) 1 1, .string ⟨#[120]⟩, .string ⟨#[115]⟩, .slice none 0 0] 24 (0, 0))) (h3 : W.heap[b3]? = some (.cells #[.string ⟨#[121]⟩, .string ⟨#[115]⟩, .slice none 0 0] 24 (0, 0))) (h4 : W.heap[b4]? = some (.cells #[.string ⟨#[122]⟩, .string ⟨#[115]⟩, .slice none 0 0] 24 (0, 0))) :
    Calls Tryz.prog 17 #[.agg #[.string ⟨#[102]⟩, .string ⟨#[]⟩, .slice (some ⟨b1, 0, none⟩) 2 2], .agg #[.string ⟨#[102]⟩, .string ⟨#[]⟩, .slice (some ⟨b2, 0, none⟩) 2 2]] W fun e w' => ∃ ra rc, e = .returned (.tuple #[.slice ra 2 rc, .int .i64 0]) ∧ BnR (fun k => k < w'.heap.size) (fun k => k < w'.heap.size) w' (.slice ra 2 rc) exoL ∧ Ext W w' := by
  have l1 := (Array.getElem?_eq_some_iff.1 h1).1
  have l2 := (Array.getElem?_eq_some_iff.1 h2).1
  have l3 := (Array.getElem?_eq_some_iff.1 h3).1
  have l4 := (Array.getElem?_eq_some_iff.1 h4).1
  have hw := exo_wf
  simp only [Bool.and_eq_true] at hw
  have hvs : varsT (exf exx (exg exy)) ++ varsT (exf (exg exz) exx) = [(⟨#[120]⟩, ⟨#[115]⟩), (⟨#[121]⟩, ⟨#[115]⟩), (⟨#[120]⟩, ⟨#[115]⟩), (⟨#[122]⟩, ⟨#[115]⟩)] := exo_v
  have hok := exo_ok
  have d12 := heap_ne h1 h2 (by simp)
  have d13 := heap_ne h1 h3 (by simp)
  have d14 := heap_ne h1 h4 (by simp)
  have d23 := heap_ne h2 h3 (by simp)
  have d24 := heap_ne h2 h4 (by simp)
  have d34 := heap_ne h3 h4 (by simp)
  cases hu : uRes exoT 20 exoV with
  | none => rw [hu] at hok; cases hok
  | some R =>
  rw [hu] at hok
  have hR0 : R ≠ none := fun e => by rw [e] at hok; cases hok
  have hnil : ∀ S, TlR S W [] (.slice none 0 0) := fun S => TlR.nil _ _
  have hx := Unify_x (T := exoT) (ad := exoA b1 b2 b3 b4 W.heap.size (W.heap.size + 1)) (S := fun k => k = b1 ∨ k = b2 ∨ k = b3 ∨ k = b4 ∨ k = W.heap.size ∨ k = W.heap.size + 1) 20 (exf exx (exg exy)) (exf (exg exz) exx) (some ⟨b1, 0, none⟩) (some ⟨b2, 0, none⟩) 2 2 W htab
    ⟨_, _, rfl, exk_tl (a := exx) (b := exg exy) h1 l1 (hnil _) (one_tl (a := exy) h3 l3 (hnil _))⟩ ⟨_, _, rfl, exk_tl (a := exg exz) (b := exx) h2 l2 (one_tl (a := exz) h4 l4 (hnil _)) (hnil _)⟩ (by decide) (by decide) hw.1.1.1 hw.1.1.2
    (by rw [hvs]; decide) (by rw [hvs]; decide) rfl rfl
    (fun W' hW' ha hb => exo_nd ⟨d12, d13, d14, by omega, by omega, d23, d24, by omega, by omega, d34, by omega, by omega, by omega, by omega, by omega⟩ (hW'.heap h1 (fun h => h)) (hW'.heap h2 (fun h => h)) (hW'.heap h3 (fun h => h)) (hW'.heap h4 (fun h => h)) ha hb)
    (by rintro k (h | h | h | h | h | h) <;> omega)
    (fun i r hr => (by decide : ∀ r ∈ exoT, r.ks.length ≤ 1000000) r (List.mem_of_getElem? hr)) R hu exoτ (fun st e => okFin_spec (by rw [e] at hok; exact hok))
  refine hx.mono ?_
  rintro e w' ⟨hres, hE⟩
  rcases hres with ⟨h, _⟩ | ⟨_, r, L, rfl, hbn, hasc, hmem⟩
  · exact absurd h hR0
  rw [hvs] at hmem
  have tx : exoτ (⟨#[120]⟩, ⟨#[115]⟩) = exg exy := if_pos rfl
  have ty : exoτ (⟨#[121]⟩, ⟨#[115]⟩) = exy := if_neg (by decide)
  have tz : exoτ (⟨#[122]⟩, ⟨#[115]⟩) = exy := if_neg (by decide)
  have hL : L = exoL := asc_uniq Prod.fst hasc (by unfold exoL AscK; decide) (fun f => by
    rw [hmem f]
    constructor
    · rintro ⟨⟨v, hv, e⟩, hs⟩
      simp only [List.mem_cons, List.not_mem_nil, or_false] at hv
      rcases hv with e2 | e2 | e2 | e2 <;> subst e2 <;> subst e
      · exact List.mem_cons.2 (.inl (by rw [tx]))
      · exact absurd hs (by rw [ty]; decide)
      · exact List.mem_cons.2 (.inl (by rw [tx]))
      · exact List.mem_cons.2 (.inr (List.mem_cons.2 (.inl (by rw [tz]))))
    · intro hf
      unfold exoL at hf
      simp only [List.mem_cons, List.not_mem_nil, or_false] at hf
      rcases hf with e | e <;> subst e
      · exact ⟨⟨(⟨#[120]⟩, ⟨#[115]⟩), by simp, by rw [tx]⟩, by decide⟩
      · exact ⟨⟨(⟨#[122]⟩, ⟨#[115]⟩), by simp, by rw [tz]⟩, by decide⟩)
  subst hL
  obtain ⟨ra, rc, rfl⟩ := hbn.shape
  exact ⟨ra, rc, rfl, hbn.weaken (fun k hk => hk.2) (fun k hk => hk.2), hE⟩
set_option maxRecDepth 100000 in
set_option maxHeartbeats 2000000 in
theorem ext_x (W : World) (htab : AscT W) (b1 b2 b3 : Nat) (h1 : W.heap[b1]? = some (.cells #[.string ⟨#[120]⟩, .string ⟨#[115]⟩, .slice none 0 0, .string ⟨#[120]⟩, .string ⟨#[115]⟩, .slice none 0 0] 24 (0, 0))) (h2 : W.heap[b2]? = some (.cells #[.string ⟨#[121]⟩, .string ⟨#[115]⟩, .slice none 0 0, .string ⟨#[103]⟩, .string ⟨#[]⟩, .slice (some ⟨b3, 0, none⟩) 1 1] 24 (0, 0))) (h3 : W.heap[b3]? = some (.cells #[.string ⟨#[121]⟩, .string ⟨#[115]⟩, .slice none 0 0] 24 (0, 0))) :
    Calls Tryz.prog 17 #[.agg #[.string ⟨#[102]⟩, .string ⟨#[]⟩, .slice (some ⟨b1, 0, none⟩) 2 2], .agg #[.string ⟨#[102]⟩, .string ⟨#[]⟩, .slice (some ⟨b2, 0, none⟩) 2 2]] W fun e w' => e = .returned (.tuple #[.slice none 0 0, .int .i64 12]) ∧ Ext W w' := by
  have l1 := (Array.getElem?_eq_some_iff.1 h1).1
  have l2 := (Array.getElem?_eq_some_iff.1 h2).1
  have l3 := (Array.getElem?_eq_some_iff.1 h3).1
  have hw := exo_wf
  simp only [Bool.and_eq_true] at hw
  have hvs : varsT (exf exx exx) ++ varsT (exf exy (exg exy)) = [(⟨#[120]⟩, ⟨#[115]⟩), (⟨#[121]⟩, ⟨#[115]⟩)] := ext_v
  have hno := ext_none
  have d12 := heap_ne h1 h2 (by simp)
  have d13 := heap_ne h1 h3 (by simp)
  have d23 := heap_ne h2 h3 (by simp)
  have hu : uRes extT 20 extV = some none := by
    cases hq : uRes extT 20 extV with
    | none => rw [hq] at hno; cases hno
    | some R =>
      cases R with
      | none => rfl
      | some st => rw [hq] at hno; cases hno
  have hnil : ∀ S, TlR S W [] (.slice none 0 0) := fun S => TlR.nil _ _
  have hx := Unify_x (T := extT) (ad := extA b1 b2 b3 W.heap.size (W.heap.size + 1)) (S := fun k => k = b1 ∨ k = b2 ∨ k = b3 ∨ k = W.heap.size ∨ k = W.heap.size + 1) 20 (exf exx exx) (exf exy (exg exy)) (some ⟨b1, 0, none⟩) (some ⟨b2, 0, none⟩) 2 2 W htab
    ⟨_, _, rfl, exk_tl (a := exx) (b := exx) h1 l1 (hnil _) (hnil _)⟩ ⟨_, _, rfl, exk_tl (a := exy) (b := exg exy) h2 l2 (hnil _) (one_tl (a := exy) h3 l3 (hnil _))⟩ (by decide) (by decide) hw.1.2 hw.2
    (by rw [hvs]; decide) (by rw [hvs]; decide) rfl rfl
    (fun W' hW' ha hb => ext_nd ⟨d12, d13, by omega, by omega, d23, by omega, by omega, by omega, by omega, by omega⟩ (hW'.heap h1 (fun h => h)) (hW'.heap h2 (fun h => h)) (hW'.heap h3 (fun h => h)) ha hb)
    (by rintro k (h | h | h | h | h) <;> omega)
    (fun i r hr => (by decide : ∀ r ∈ extT, r.ks.length ≤ 1000000) r (List.mem_of_getElem? hr)) none hu exoτ (fun st e => by cases e)
  refine hx.mono ?_
  rintro e w' ⟨hres, hE⟩
  rcases hres with ⟨_, h⟩ | ⟨h, _⟩
  · exact ⟨h, hE⟩
  · exact absurd rfl h

end Go.Proofs.YtlkcjmaiahnodaaGreatDoor
