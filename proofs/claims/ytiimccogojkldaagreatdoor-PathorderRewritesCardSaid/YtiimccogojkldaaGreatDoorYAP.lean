/- The texts TB I98 TYZ I101 I51, one behind the other. -/
import Derived.Test.YtiimccogojkldaaGreatDoorYAA
import Derived.Test.YtiimccogojkldaaGreatDoorYAF
import Derived.Test.YtiimccogojkldaaGreatDoorYAM
import Derived.Test.YtiimccogojkldaaGreatDoorYAN
import Derived.Test.YtiimccogojkldaaGreatDoorYAK
import Derived.Test.YtiimccogojkldaaGreatDoorYAO
/- An append of one value to a full slice: always a new row. -/
namespace Go.Hw
open Go.RowKit
set_option linter.unusedVariables false
set_option linter.unusedSimpArgs false
section
variable {P : Program} (w : World)
theorem step_append_full {o : Oper} {a : Act} {K : Act → World → Prop} {Q : Exit → Act → World → Prop} (s x : Operand) (t : TypeId)
    (ho : o.op = .call { callee := .builtin .append, args := #[s, x], argTypes := #[t, t] })
    (e : TypeId) (i : TypeInfo) (z : Value) (bytes : Nat) (ht : P.underlying t = some (.slice e)) (hi : P.info? e = some i) (hz : i.zero = some z)
    (hsize : i.size = 1) (hby : i.bytes = bytes) (S : Nat → Prop)
    (q : Option Addr) (n : Nat) (xs : List Value) (hs : a.eval s = .slice q n n) (hold : SlR S w 1 (.slice q n n) n xs)
    (g c : Nat) (u : Value) (hx : a.eval x = .slice (some ⟨g, 0, none⟩) 1 c) (hu : w.cell? ⟨g, 0, none⟩ = some u)
    (h63 : n + 1 ≤ maxLen) (hbytes : (n + 1) * bytes ≤ 140737488355328)
    (h : ∀ c' w', Ext w w' → w.heap.size < w'.heap.size → SlR (fun k => k = w.heap.size) w' 1 (.slice (some ⟨w.heap.size, 0, none⟩) (n + 1) c') (n + 1) (xs ++ [u]) → K (a.put o.dst (.slice (some ⟨w.heap.size, 0, none⟩) (n + 1) c')) w') : o.wp P a w K Q := by
  have hxl : xs.length = n := by have := hold.1; omega
  have hnews : ∀ j v, [u][j]? = some v → w.cell? ((⟨g, 0, none⟩ : Addr).add j) = some v := by
    intro j v hv
    match j, hv with
    | 0, hv => simp only [List.getElem?_cons_zero, Option.some.injEq] at hv; subst hv; exact hu
  have hrun : (Builtin.append_ #[t, t] o.type #[.slice q n n, .slice (some ⟨g, 0, none⟩) 1 c]).run P w =
      .ok (.slice (some ⟨w.heap.size, 0, none⟩) (n + 1) (grownCap w (n + 1) n e)) (w.drew.alloc (.cells (xs.toArray ++ [u].toArray ++ Builtin.zeroCells z.cells (grownCap w (n + 1) n e - (n + 1))) e)) := by
    rcases hold.2 with ⟨hv, hm⟩ | ⟨ad, cap, hv, hc, hgg, hj⟩
    · injection hv with h1 h2 h3
      subst h1; subst hm
      have hn : xs = [] := List.eq_nil_of_length_eq_zero hxl
      subst hn
      have := run_append_nil (P := P) w t o.type e i z ht hi hz ⟨g, 0, none⟩ 1 c [u] (by simp [hsize]) hnews (by omega) (by omega) (by subst hby; omega)
      simpa using this
    · injection hv with h1 h2 h3
      subst h1; subst h3
      refine run_append_grow (P := P) w t o.type e i z ht hi hz ad n n xs (by rw [hxl, hsize]; omega) (fun j v hjv => ?_) ⟨g, 0, none⟩ 1 c [u] (by simp [hsize]) hnews (by omega) (by simp only [maxLen] at h63; omega) (growslice_fits (by omega) (by subst hby; exact hbytes))
      have hlt : j < n := by rw [← hxl]; exact (List.getElem?_eq_some_iff.1 hjv).1
      rw [← hjv, ← hj j (by omega)]
      obtain ⟨gg, off, spot⟩ := ad
      have hsp := (hgg (by omega)).1
      simp only at hsp
      subst hsp
      congr 1
      unfold Addr.add
      split
      · rename_i h0; simp [h0]
      · rfl
  unfold Oper.wp execOp
  simp only [ho, resolve, invoke, builtin, Sem.run_bind, Sem.run_pure, Result.andThen_ok, List.map_toArray, List.map_cons, List.map_nil, hs, hx, hrun]
  have hE : Ext w (w.drew.alloc (.cells (xs.toArray ++ [u].toArray ++ Builtin.zeroCells z.cells (grownCap w (n + 1) n e - (n + 1))) e)) := ((Upd.refl (fun _ => False) w).drew).alloc _
  refine h _ _ hE (by show w.heap.size < (w.heap.push _).size; simp) ⟨by rw [List.length_append, hxl]; simp, .inr ⟨_, _, rfl, ?_, fun _ => ⟨rfl, rfl⟩, fun j hj => ?_⟩⟩
  · exact grownCap_ge ..
  · have hb := alloc0 w.drew (.cells (xs.toArray ++ [u].toArray ++ Builtin.zeroCells z.cells (grownCap w (n + 1) n e - (n + 1))) e)
    have hb2 := cell_of_row _ _ j _ _ _ hb
    rw [Nat.zero_add]
    refine hb2.trans ?_
    have hj2 : j < (xs.toArray ++ [u].toArray).size := by simp [hxl]; omega
    rw [Array.getElem?_append_left hj2]
    simp
/-- a slice without more room -/
theorem SlR.clip {S : Nat → Prop} {w : World} {q : Option Addr} {n c size : Nat} {xs : List Value} (h : SlR S w size (.slice q n c) n xs) : SlR S w size (.slice q n n) n xs ∧ n ≤ c ∧ (q = none → n = 0 ∧ c = 0) := by
  obtain ⟨h1, ⟨hv, hm⟩ | ⟨ad, cap, hv, hc, hg, hj⟩⟩ := h
  · injection hv with e1 e2 e3
    subst e1; subst e2; subst e3
    exact ⟨⟨h1, .inl ⟨rfl, rfl⟩⟩, Nat.le_refl _, fun _ => ⟨rfl, rfl⟩⟩
  · injection hv with e1 e2 e3
    subst e1; subst e3
    exact ⟨⟨h1, .inr ⟨ad, n, rfl, Nat.le_refl _, hg, hj⟩⟩, hc, fun e => by cases e⟩
end
end Go.Hw

/- find of the rewrite package. -/
namespace Go.Proofs.YtiimccogojkldaaGreatDoor
open Go.RowKit Go.Hw Go
set_option linter.unusedVariables false
set_option linter.unusedSimpArgs false

open Tm
set_option maxRecDepth 100000 in
set_option maxHeartbeats 2000000 in
theorem clip_x (a : Option Addr) (n c : Nat) (w : World) (hn : n ≤ c) (hl : n ≤ 1000000) (ha : a = none → n = 0 ∧ c = 0) : Calls Tryz.prog 118 #[.slice a n c] w fun e w' => e = .returned (.slice a n n) ∧ Ext w w' := by
  have z0 : (0 : Int) ≤ (n : Int) := by omega
  have z1 : (n : Int) ≤ (c : Int) := by omega
  have hn2 : ((n : Int)).toNat = n := by omega
  cases a with
  | none =>
    obtain ⟨rfl, rfl⟩ := ha rfl
    go_enter Tryz.func118, Tryz.ntmps118
    go_wp2_with fail
    go_ret
    exact ⟨rfl, Upd.refl _ _⟩
  | some b =>
    go_enter Tryz.func118, Tryz.ntmps118
    go_wp2_with fail
    go_ret
    exact ⟨rfl, Upd.refl _ _⟩
theorem clonI_x (l : List Nat) (v : Value) (S : Nat → Prop) (w : World) (hR : SlR S w 1 v l.length (l.map (fun i : Nat => Value.int .i64 (i : Int)))) (hl : l.length ≤ 1000000) :
    Calls Tryz.prog 120 #[v] w fun e w' => ∃ r, e = .returned r ∧ SlR (fun j => w.heap.size ≤ j ∧ j < w'.heap.size) w' 1 r l.length (l.map (fun i : Nat => Value.int .i64 (i : Int))) ∧ Ext w w' := by
  have hown : ∀ (w' : World) (r : Value), w'.ownsRow w.heap.size 3 1 r l.length (l.map (fun i : Nat => Value.int .i64 (i : Int))) → SlR (fun j => w.heap.size ≤ j ∧ j < w'.heap.size) w' 1 r l.length (l.map (fun i : Nat => Value.int .i64 (i : Int))) := fun w' r h => (SlR.of_own h).weaken (fun j hj => ⟨(h.lt j hj).1, (h.lt j hj).2⟩)
  obtain ⟨a, cap, rfl⟩ := SlR.shape hR
  by_cases h0 : 0 < l.length
  · obtain ⟨g, off, hga, _, hat⟩ := SlR.one_at (d := (0 : Nat)) hR h0
    subst hga
    refine (Tryz.slices_Clone_int g off l.length cap (l.map fun i : Nat => (i : Int)) w (by simp) (by omega) (fun j hj => ?_)).mono ?_
    · have hj' : j < l.length := by simpa using hj
      have h1 := hat j hj'
      rw [h1]
      simp [List.getD_eq_getElem?_getD, List.getElem?_eq_getElem hj']
    · rintro e w' ⟨v', rfl, h1, _, h2⟩
      rw [List.take_of_length_le (by simp), List.map_map] at h1
      exact ⟨v', rfl, hown w' v' h1, ext_below h2⟩
  · have hl0 : l = [] := List.eq_nil_of_length_eq_zero (by omega)
    subst hl0
    cases a with
    | none =>
      refine (Tryz.slices_Clone_int_nil 0 cap w).mono ?_
      rintro e w' ⟨rfl, rfl⟩
      exact ⟨_, rfl, SlR.nil _ _ _, Upd.refl _ _⟩
    | some a =>
      refine (Tryz.slices_Clone_int_zero a cap w).mono ?_
      rintro e w' ⟨v', rfl, h1, _, h2⟩
      exact ⟨v', rfl, hown w' v' h1, ext_below h2⟩
/-- the path of the redex, its rule and its result -/
def fq (o : Option (Nat × List Nat × Tm)) (P : List Nat) : List Nat := match o with | some x => P ++ x.2.1 | none => []
def fi (o : Option (Nat × List Nat × Tm)) : Nat := match o with | some x => x.1 | none => 0
def ft (o : Option (Nat × List Nat × Tm)) : Tm := match o with | some x => x.2.2 | none => default
/-- what find answers: the path's slice, the part's slice -/
structure FdR (o : Option (Nat × List Nat × Tm)) (P : List Nat) (x : (Option Addr × Nat) × Option Addr × Nat) (B : Nat → Prop) (w' : World) : Prop where
  path : SlR B w' 1 (.slice x.1.1 (fq o P).length x.1.2) (fq o P).length ((fq o P).map (fun i : Nat => Value.int .i64 (i : Int)))
  part : TlO 25 w' B (ft o).kids (.slice x.2.1 (ft o).kids.length x.2.2)
def fdV (o : Option (Nat × List Nat × Tm)) (P : List Nat) (x : (Option Addr × Nat) × Option Addr × Nat) : Value := .tuple #[.agg #[.int .i64 (fi o : Int), .slice x.1.1 (fq o P).length x.1.2], .agg #[.string (ft o).name, .string (ft o).sort, .slice x.2.1 (ft o).kids.length x.2.2], .bool o.isSome]
theorem FdR.ext {o : Option (Nat × List Nat × Tm)} {P : List Nat} {x : (Option Addr × Nat) × Option Addr × Nat} {B : Nat → Prop} {w w' : World} (h : FdR o P x B w) (hE : Ext w w') : FdR o P x B w' := ⟨SlR.kept h.path hE (fun _ _ h => h), h.part.kept hE (fun _ _ h => h)⟩
abbrev FA := (Option Addr × Nat) × (Option Addr × Nat) × (Nat → Prop)
def annClip (v : Value) : PG.Ann FA := ⟨fun _ => v, fun _ _ => True, fun _ _ _ _ _ => trivial, fun _ _ => False, fun _ _ _ _ h => h.elim⟩
def annRow (k : Nat) : PG.Ann FA := ⟨fun x => .slice (some ⟨x.1.2, 0, none⟩) 1 1, fun x W => W.cell? ⟨x.1.2, 0, none⟩ = some (.int .i64 (k : Int)), fun x W W' h hE => hE.cell h (fun h => h), fun _ _ => False, fun _ _ _ _ h => h.elim⟩
def annApp (base n : Nat) (xs : List Value) : PG.Ann FA := ⟨fun x => .slice (some ⟨x.1.2, 0, none⟩) n x.2.1.2, fun x W => base ≤ x.1.2 ∧ x.1.2 < W.heap.size ∧ SlR (fun j => j = x.1.2) W 1 (.slice (some ⟨x.1.2, 0, none⟩) n x.2.1.2) n xs, fun x W W' h hE => ⟨h.1, Nat.lt_of_lt_of_le h.2.1 hE.size, SlR.kept h.2.2 hE (fun _ _ h => h)⟩, fun x j => j = x.1.2, fun x W k h e => by rw [e]; exact h.2.1⟩
def annFind (base : Nat) (o : Option (Nat × List Nat × Tm)) (P : List Nat) : PG.Ann FA := ⟨fun x => fdV o P (x.1, x.2.1), fun x W => FdR o P (x.1, x.2.1) x.2.2 W ∧ ∀ j, x.2.2 j → base ≤ j ∧ j < W.heap.size, fun x W W' h hE => ⟨h.1.ext hE, fun j hj => ⟨(h.2 j hj).1, Nat.lt_of_lt_of_le (h.2 j hj).2 hE.size⟩⟩, fun x j => x.2.2 j, fun x W k h e => (h.2 k e).2⟩
def annBox (base : Nat) (c : Obj) : PG.Ann FA := ⟨fun x => .pointer (some ⟨x.1.2, 0, none⟩), fun x W => base ≤ x.1.2 ∧ W.heap[x.1.2]? = some c, fun x W W' h hE => ⟨h.1, hE.heap h.2 (fun h => h)⟩, fun x j => j = x.1.2, fun x W k h e => by rw [e]; exact (Array.getElem?_eq_some_iff.1 h.2).1⟩
set_option maxRecDepth 100000 in
set_option maxHeartbeats 2000000 in
theorem rfind_x (l : List Rl) (hll : l.length ≤ 1000000) (hls : ∀ r ∈ l, r.1.size ≤ 100000 ∧ r.2.size ≤ 100000) : ∀ (t : Tm) (v lv pv : Value) (S T U : Nat → Prop) (P : List Nat) (w : World), TmR T w t v → RuR S w l lv → SlR U w 1 pv P.length (P.map (fun i : Nat => Value.int .i64 (i : Int))) → (∀ k, S k → k < w.heap.size) → (∀ k, T k → k < w.heap.size) → t.size ≤ 100000 → P.length + t.size ≤ 200000 →
    Calls Tryz.prog 95 #[lv, v, pv] w fun e w' => ∃ x B, e = .returned (fdV (fndT l t) P x) ∧ FdR (fndT l t) P x B w' ∧ (∀ j, B j → w.heap.size ≤ j ∧ j < w'.heap.size) ∧ Ext w w' := by
  refine Tm.ind (fun nm so L ih => ?_)
  intro v lv pv S T U P w hT hR hP hS hT2 hsz hps
  obtain ⟨a, cap, rfl, hT⟩ := hT
  obtain ⟨la, lc, rfl⟩ := hR.shape
  obtain ⟨pa, pc, rfl⟩ := SlR.shape hP
  dsimp only [tV, Tm.name, Tm.sort, Tm.kids] at hT ⊢
  have HTL := Lib.hid hT
  have HRL := Lib.hid hR
  have HPL := Lib.hid hP
  have HIH := Lib.hid ih
  have HST := Lib.hid (And.intro hS hT2)
  have HRS := Lib.hid hls
  have hszL : sizes L + 1 ≤ 100000 := by rw [size_eq] at hsz; simp only [Tm.kids] at hsz; omega
  have HSL := Lib.hid hszL
  have hlL : L.length ≤ 100000 := by have h1 := length_le_sizes L; omega
  have HLL := Lib.hid hlL
  have HCL := Lib.hid (SlR.clip HPL.out).2
  have HPS := Lib.hid hps
  have hpl : P.length ≤ 200000 := by omega
  have HE0 := Lib.hid ((((Upd.refl (fun _ => False) w).alloc (.cells #[.string nm, .string so, .slice a L.length cap] 25)).alloc (.cells #[.int .i64 0, .slice none 0 0] 71)).alloc (.cells #[.string ⟨#[]⟩, .string ⟨#[]⟩, .slice none 0 0] 25))
  have HB0 := Lib.hid (allocOld (allocOld (alloc0 w (.cells #[.string nm, .string so, .slice a L.length cap] 25)) (.cells #[.int .i64 0, .slice none 0 0] 71)) (.cells #[.string ⟨#[]⟩, .string ⟨#[]⟩, .slice none 0 0] 25))
  have HB1 := Lib.hid (allocOld (alloc_at (w.alloc (.cells #[.string nm, .string so, .slice a L.length cap] 25)) (.cells #[.int .i64 0, .slice none 0 0] 71) (n := w.heap.size + 1) (by simp)) (.cells #[.string ⟨#[]⟩, .string ⟨#[]⟩, .slice none 0 0] 25))
  have HB2 := Lib.hid (alloc_at ((w.alloc (.cells #[.string nm, .string so, .slice a L.length cap] 25)).alloc (.cells #[.int .i64 0, .slice none 0 0] 71)) (.cells #[.string ⟨#[]⟩, .string ⟨#[]⟩, .slice none 0 0] 25) (n := w.heap.size + 2) (by simp))
  have hz0 : (((w.alloc (.cells #[.string nm, .string so, .slice a L.length cap] 25)).alloc (.cells #[.int .i64 0, .slice none 0 0] 71)).alloc (.cells #[.string ⟨#[]⟩, .string ⟨#[]⟩, .slice none 0 0] 25)).heap.size = w.heap.size + 3 := by simp
  have HZ0 := Lib.hid hz0
  obtain ⟨V, hV⟩ : ∃ V, fndL l 0 L = V := ⟨_, rfl⟩
  have HV := Lib.hid hV
  have hvv := fndT_eq l nm so L
  rw [hV] at hvv
  have HVV := Lib.hid hvv
  have c2 := cellRow HB0.out 2 (.slice a L.length cap) rfl
  clear ih hT hR hP hS hT2 hsz hszL hz0 hV hvv hps
  go_enter Tryz.func95, Tryz.ntmps95
  go_wp2_with fail
  clear c2
  generalize (((w.alloc (.cells #[.string nm, .string so, .slice a L.length cap] 25)).alloc (.cells #[.int .i64 0, .slice none 0 0] 71)).alloc (.cells #[.string ⟨#[]⟩, .string ⟨#[]⟩, .slice none 0 0] 25)) = W0 at *
  go_loopg [21] L.length (fun gk iv wr => ∃ k : Nat, iv = .int .i64 (k : Int) ∧ gk = L.length - k ∧ k ≤ L.length ∧ Hid (fndL l k (L.drop k) = V) ∧ Hid (Ext w wr) ∧ Hid (wr.heap[w.heap.size]? = some (.cells #[.string nm, .string so, .slice a L.length cap] 25 (0, 0))) ∧ Hid (wr.heap[w.heap.size + 1]? = some (.cells #[.int .i64 0, .slice none 0 0] 71 (0, 0))) ∧ Hid (wr.heap[w.heap.size + 2]? = some (.cells #[.string ⟨#[]⟩, .string ⟨#[]⟩, .slice none 0 0] 25 (0, 0))) ∧ Hid (w.heap.size + 3 ≤ wr.heap.size))
  case atStart => exact ⟨0, rfl, rfl, Nat.zero_le _, HV, HE0, HB0, HB1, HB2, Lib.hid (by rw [HZ0.out]; exact Nat.le_refl _)⟩
  case round =>
    clear HB0 HB1 HB2 HE0 HZ0 HV
    obtain ⟨k, rfl, rfl, hk, HVK, HE, HB0, HB1, HB2, HSZ⟩ := hrel
    by_cases hlt : k < L.length
    · obtain ⟨g, off, hga, _, hat⟩ := (HTL.out.ext HE.out).at_ (by omega)
      subst hga
      obtain ⟨xa, xc, q0, q1, q2, hkid⟩ := hat k hlt
      rw [← Nat.add_assoc] at q1 q2
      have z0 : (0 : Int) ≤ (k : Int) := by omega
      have z1 : (k : Int) < (L.length : Int) := by omega
      have z2 : decide ((k : Int) < (L.length : Int)) = true := decide_eq_true z1
      have z2' : decide (k < L.length) = true := decide_eq_true hlt
      have HVN := Lib.hid (HVK.out.symm.trans (fndL_at l L k hlt))
      have HKID := Lib.hid hkid
      have HMEM := Lib.hid (tg_mem L k hlt)
      have HSX : Hid ((tg L k).size ≤ 100000 ∧ P.length + 1 + (tg L k).size ≤ 200000) := Lib.hid (by have h1 := HSL.out; have h2 := sizes_take L k hlt; have h3 := sizes_take_le L (k + 1); have h4 := HPS.out; rw [size_eq] at h4; simp only [Tm.kids] at h4; omega)
      obtain ⟨x, hx⟩ : ∃ x, tg L k = x := ⟨_, rfl⟩
      have HX := Lib.hid hx
      rw [hx] at q0 q1 q2 HVN HKID HMEM HSX
      have hQ := (Upd.refl (fun _ => False) wr).alloc (.cells #[.string x.name, .string x.sort, .slice xa x.kids.length xc] 25)
      have hB5 := alloc0 wr (.cells #[.string x.name, .string x.sort, .slice xa x.kids.length xc] 25)
      have b0 := cellRow hB5 0 (.string x.name) rfl
      have b1 := cellRow hB5 1 (.string x.sort) rfl
      have b2 := cellRow hB5 2 (.slice xa x.kids.length xc) rfl
      have HQ := Lib.hid hQ
      have HB0q := Lib.hid (hQ.heap HB0.out (fun h => h))
      have HB1q := Lib.hid (hQ.heap HB1.out (fun h => h))
      have HB2q := Lib.hid (hQ.heap HB2.out (fun h => h))
      clear hat hkid hx hQ hB5 HVK HB0 HB1 HB2
      go_wp2_with fail
      generalize wr.alloc (.cells #[.string x.name, .string x.sort, .slice xa x.kids.length xc] 25) = wq at *
      have HIX := Lib.hid (fun W (hW : Ext wq W) (pv' : Value) (U' : Nat → Prop) (hP : SlR U' W 1 pv' (P.length + 1) (P.map (fun i : Nat => Value.int .i64 (i : Int)) ++ [.int .i64 (k : Int)])) => HIH.out x HMEM.out (.agg #[.string x.name, .string x.sort, .slice xa x.kids.length xc]) (.slice la l.length lc) pv' S T U' (P ++ [k]) W ⟨xa, xc, rfl, (HKID.out.ext HQ.out).ext hW⟩ (HRL.out.ext ((HE.out.trans HQ.out).trans hW)) (by rw [List.length_append, List.map_append]; exact hP) (fun j hj => Nat.lt_of_lt_of_le (HST.out.1 j hj) ((HE.out.trans HQ.out).trans hW).size) (fun j hj => Nat.lt_of_lt_of_le (HST.out.2 j hj) ((HE.out.trans HQ.out).trans hW).size) (HSX.out).1 (by rw [List.length_append]; exact HSX.out.2))
      have HPQ := Lib.hid (fun W (hW : Ext wq W) => SlR.kept HPL.out ((HE.out.trans HQ.out).trans hW) (fun _ _ h => h))
      have x0 := fun x : XW wq => x.ext.cell b0 (fun h => h)
      have x1 := fun x : XW wq => x.ext.cell b1 (fun h => h)
      have x2 := fun x : XW wq => x.ext.cell b2 (fun h => h)
      obtain ⟨o, ho⟩ : ∃ o, fndT l x = o := ⟨_, rfl⟩
      have HO := Lib.hid ho
      rw [ho] at HIX HVN
      clear ho b0 b1 b2
      refine PG.wp_region_parF (α := FA) 14 [10, 11] 16 [(14, 1), (15, 1), (16, 2)] [[], [], [], [2], [], [4], [2, 3, 4, 5], [0, 1, 2, 3, 4, 5, 6], [0, 1, 2, 3, 4, 5, 6, 7], [0, 1, 2, 3, 4, 5, 6, 7, 8], [0, 1, 2, 3, 4, 5, 6, 7, 8], [0, 1, 2, 3, 4, 5, 6, 7, 8], [], [], [0, 1, 2, 3, 4, 5, 6, 7, 8, 9, 12, 13], [0, 1, 2, 3, 4, 5, 6, 7, 8, 9, 10, 12, 13, 14], [0, 1, 2, 3, 4, 5, 6, 7, 8, 9, 10, 11, 12, 13, 14, 15]]
        [none, none, none, some (annClip (.slice pa P.length P.length)), none, some (annRow k), some (annApp wq.heap.size (P.length + 1) (P.map (fun i : Nat => Value.int .i64 (i : Int)) ++ [.int .i64 (k : Int)])), some (annFind wq.heap.size o (P ++ [k])), none, none, none, none, some (annBox wq.heap.size (.cells #[.int .i64 0, .slice none 0 0] 71 (0, 0))), some (annBox wq.heap.size (.cells #[.string ⟨#[]⟩, .string ⟨#[]⟩, .slice none 0 0] 25 (0, 0)))]
        [false, false, false, true, false, true, true, true, false, false, false, false, true, true] (by kernel_rfl) (by kernel_rfl) rfl (fun _ _ d _ _ h => by cases d <;> exact h) ?_
      simp only [List.take_succ_cons, List.take_zero, pickO, List.getElem?_cons_zero, List.getElem?_cons_succ]
      refine PG.can_pure0 rfl (fun K hK => ?_); go_simp; refine hK _ ?_; clear hK K
      refine PG.can_pure0 rfl (fun K hK => ?_); go_simp; refine hK _ ?_; clear hK K
      refine PG.can_pure0 rfl (fun K hK => ?_); go_simp; refine hK _ ?_; clear hK K
      refine PG.can_mem _ rfl (by go_simp) (fun W hW hG K hK => ?_) (fun K z3 hK => ?_)
      · go_simp
        refine (clip_x pa P.length pc W HCL.out.1 (by omega) HCL.out.2).mono ?_
        rintro e w' ⟨rfl, hE⟩
        exact hK default _ hE trivial (fun k e => e.elim)
      refine hK _ ?_; clear hK K
      dsimp only [annClip, annRow, annApp, annFind, annBox, fdV]
      refine PG.can_pure0 rfl (fun K hK => ?_); go_simp; refine hK _ ?_; clear hK K
      refine PG.can_mem _ rfl (by go_simp) (fun W hW hG K hK => ?_) (fun K z5 hK => ?_)
      · go_simp
        exact hK ((none, W.heap.size), default) _ ((Upd.refl (fun _ => False) W).alloc _) (cellRow (alloc0 W _) 0 _ rfl) (fun k e => e.elim)
      refine hK _ ?_; clear hK K
      dsimp only [annClip, annRow, annApp, annFind, annBox, fdV]
      refine PG.can_mem _ rfl (by go_simp) (fun W hW hG K hK => ?_) (fun K z6 hK => ?_)
      · have g5 := hG _ (List.mem_append_right _ (List.mem_singleton.2 rfl)) (by show (5 : Nat) ∈ _; decide)
        obtain ⟨iI, hi, hz0, hz1, hz2⟩ := info_parts infoI
        refine step_append_full W (.tmp 30) (.tmp 32) 59 rfl 3 iI (.int .i64 0) 8 Tryz.underlying59 hi hz0 hz1 hz2 U pa P.length (P.map (fun i : Nat => Value.int .i64 (i : Int))) rfl (SlR.clip (HPQ.out W hW)).1 z5.1.2 1 (.int .i64 (k : Int)) rfl g5 (by unfold maxLen; omega) (by omega) ?_
        intro c' w' hE hLT hS
        exact hK ((none, W.heap.size), (none, c'), fun _ => False) w' hE ⟨hW.size, hLT, hS⟩ (fun k e => by rw [e]; exact Nat.le_refl _)
      refine hK _ ?_; clear hK K
      dsimp only [annClip, annRow, annApp, annFind, annBox, fdV]
      refine PG.can_mem _ rfl (by go_simp) (fun W hW hG K hK => ?_) (fun K z7 hK => ?_)
      · have g6 := hG _ (List.mem_append_right _ (List.mem_singleton.2 rfl)) (by show (6 : Nat) ∈ _; decide)
        go_simp
        refine (HIX.out W hW _ _ g6.2.2).mono ?_
        rintro e w' ⟨y, B, rfl, hF, hb, hE⟩
        exact hK (y.1, y.2, B) w' hE ⟨hF, fun j hj => ⟨Nat.le_trans hW.size (hb j hj).1, (hb j hj).2⟩⟩ (fun k e => (hb k e).1)
      refine hK _ ?_; clear hK K
      dsimp only [annClip, annRow, annApp, annFind, annBox, fdV]
      refine PG.can_pure0 rfl (fun K hK => ?_); go_simp; refine hK _ ?_; clear hK K
      refine PG.can_pure0 rfl (fun K hK => ?_); go_simp; refine hK _ ?_; clear hK K
      refine PG.can_pure0 rfl (fun K hK => ?_); go_simp; refine hK _ ?_; clear hK K
      refine PG.can_pure0 rfl (fun K hK => ?_); go_simp; refine hK _ ?_; clear hK K
      refine PG.can_mem _ rfl (by go_simp) (fun W hW hG K hK => ?_) (fun K z12 hK => ?_)
      · go_simp
        exact hK ((none, W.heap.size), default) _ ((Upd.refl (fun _ => False) W).alloc _) ⟨hW.size, alloc0 _ _⟩ (fun k e => by rw [e]; exact Nat.le_refl _)
      refine hK _ ?_; clear hK K
      dsimp only [annClip, annRow, annApp, annFind, annBox, fdV]
      refine PG.can_mem _ rfl (by go_simp) (fun W hW hG K hK => ?_) (fun K z13 hK => ?_)
      · go_simp
        exact hK ((none, W.heap.size), default) _ ((Upd.refl (fun _ => False) W).alloc _) ⟨hW.size, alloc0 _ _⟩ (fun k e => by rw [e]; exact Nat.le_refl _)
      refine hK _ ?_; clear hK K
      dsimp only [annClip, annRow, annApp, annFind, annBox, fdV]
      refine PG.can_end (fun w8 hW hG hAp => ?_)
      have g7 := hG _ (List.mem_append_left _ (List.mem_append_left _ (List.mem_append_right _ (List.mem_singleton.2 rfl))))
      have g12 := hG _ (List.mem_append_left _ (List.mem_append_right _ (List.mem_singleton.2 rfl)))
      have g13 := hG _ (List.mem_append_right _ (List.mem_singleton.2 rfl))
      unfold PG.Apt at hAp
      simp only [List.nil_append, List.singleton_append, List.cons_append, List.pairwise_cons] at hAp
      obtain ⟨_, _, _, hp7, hp12, _⟩ := hAp
      have a712 := hp7 _ (List.mem_cons_self ..)
      have a713 := hp7 _ (List.mem_cons_of_mem _ (List.mem_cons_self ..))
      have a1213 := hp12 _ (List.mem_cons_self ..)
      dsimp only [annClip, annRow, annApp, annFind, annBox] at g7 g12 g13 a712 a713 a1213
      clear hG hp7 hp12 x0 x1 x2 q0 q1 q2
      have k0 := cellRow g12.2 0 (.int .i64 0) rfl
      have k1 := cellRow g12.2 1 (.slice none 0 0) rfl
      have l0 := cellRow g13.2 0 (.string ⟨#[]⟩) rfl
      have l1 := cellRow g13.2 1 (.string ⟨#[]⟩) rfl
      have l2 := cellRow g13.2 2 (.slice none 0 0) rfl
      have fk := fun i => frozenRow g12.2 i
      have fl := fun i => frozenRow g13.2 i
      have hne : z12.1.2 ≠ z13.1.2 := fun e => a1213 z12.1.2 rfl e
      have G7 := Lib.hid g7
      have G12 := Lib.hid g12
      have G13 := Lib.hid g13
      have HW := Lib.hid hW
      have A712 := Lib.hid a712
      have A713 := Lib.hid a713
      clear g7 g12 g13 hW a712 a713 a1213
      refine mix_one (fun K hK _ => ?_) trivial
      rw [if_pos (by rfl)]
      go_simp
      refine hK _ _ trivial ?_
      clear hK K
      refine mix_one (fun K hK _ => ?_) trivial
      rw [if_pos (by rfl)]
      go_simp
      refine hK _ _ trivial ?_
      clear hK K
      refine mix_two ?_; intro K hK; go_simp; refine hK _ _ ?_; clear hK K
      simp only [wpMix]
      have hB12 : ((w8.setCell ⟨z12.1.2, 0, none⟩ (.int .i64 (fi o : Int))).setCell ⟨z12.1.2, 1, none⟩ (.slice z7.1.1 (fq o (P ++ [k])).length z7.1.2)).heap[z12.1.2]? = some (.cells #[.int .i64 (fi o : Int), .slice z7.1.1 (fq o (P ++ [k])).length z7.1.2] 71 (0, 0)) := by simpa using setBlock (setBlock G12.out.2 0 (.int .i64 (fi o : Int))) 1 (.slice z7.1.1 (fq o (P ++ [k])).length z7.1.2)
      have hU12 : Upd (fun j => j = z12.1.2) w8 ((w8.setCell ⟨z12.1.2, 0, none⟩ (.int .i64 (fi o : Int))).setCell ⟨z12.1.2, 1, none⟩ (.slice z7.1.1 (fq o (P ++ [k])).length z7.1.2)) := ((Upd.refl (fun j => j = z12.1.2) w8).setCell (p := ⟨z12.1.2, 0, none⟩) (.inl rfl) _).setCell (p := ⟨z12.1.2, 1, none⟩) (.inl rfl) _
      generalize (w8.setCell ⟨z12.1.2, 0, none⟩ (.int .i64 (fi o : Int))).setCell ⟨z12.1.2, 1, none⟩ (.slice z7.1.1 (fq o (P ++ [k])).length z7.1.2) = w9 at *
      have hB13 := set3_heap (hU12.heap G13.out.2 (fun e => hne e.symm)) (.string (ft o).name) (.string (ft o).sort) (.slice z7.2.1.1 (ft o).kids.length z7.2.1.2)
      have hU13 := set3_upd w9 z13.1.2 (.string (ft o).name) (.string (ft o).sort) (.slice z7.2.1.1 (ft o).kids.length z7.2.1.2)
      generalize ((w9.setCell ⟨z13.1.2, 0, none⟩ (.string (ft o).name)).setCell ⟨z13.1.2, 1, none⟩ (.string (ft o).sort)).setCell ⟨z13.1.2, 2, none⟩ (.slice z7.2.1.1 (ft o).kids.length z7.2.1.2) = wA at *
      have HB12 := Lib.hid (hU13.heap hB12 hne)
      have HB13 := Lib.hid hB13
      have hUA : Upd (fun j => j = z12.1.2 ∨ j = z13.1.2) w8 wA := (hU12.mono (fun _ _ h => .inl h)).trans (hU13.mono (fun _ _ h => .inr h))
      have HEA : Hid (Ext wq wA) := Lib.hid (HW.out.trans' hUA (fun j hj h => by have h1 := G12.out.1; have h2 := G13.out.1; omega))
      have HFA : Hid (FdR o (P ++ [k]) (z7.1, z7.2.1) z7.2.2 wA ∧ ∀ j, z7.2.2 j → wq.heap.size ≤ j ∧ j < wA.heap.size) := Lib.hid ⟨⟨SlR.kept G7.out.1.path hUA (fun j hj h => by rcases h with h | h; exact A712.out j hj h; exact A713.out j hj h), G7.out.1.part.kept hUA (fun j hj h => by rcases h with h | h; exact A712.out j hj h; exact A713.out j hj h)⟩, fun j hj => ⟨(G7.out.2 j hj).1, Nat.lt_of_lt_of_le (G7.out.2 j hj).2 hUA.size⟩⟩
      have HEW : Hid (Ext w wA) := Lib.hid ((HE.out.trans HQ.out).trans HEA.out)
      have HB0A := Lib.hid (HEA.out.heap HB0q.out (fun h => h))
      have HB1A := Lib.hid (HEA.out.heap HB1q.out (fun h => h))
      have HB2A := Lib.hid (HEA.out.heap HB2q.out (fun h => h))
      have HSA : Hid (w.heap.size + 3 ≤ wA.heap.size) := Lib.hid (Nat.le_trans HSZ.out (HQ.out.trans HEA.out).size)
      have HZ13 : Hid (w.heap.size + 3 ≤ z13.1.2) := Lib.hid (Nat.le_trans HSZ.out (Nat.le_trans HQ.out.size G13.out.1))
      clear k0 k1 l0 l1 l2 fk fl hB12 hU12 hB13 hU13 hUA hne G7 G12 G13 HW A712 A713
      cases o with
      | none =>
        have HVX : Hid (fndL l (k + 1) (L.drop (k + 1)) = V) := Lib.hid HVN.out.symm
        have hlL2 := HLL.out
        simp only [Option.isSome_none]
        go_wp2_with fail
        go_roundg (L.length - (k + 1))
        case measure => omega
        case rel => exact ⟨k + 1, by go_num, rfl, by omega, HVX, HEW, HB0A, HB1A, HB2A, HSA⟩
      | some y =>
        have k0 := cellRow HB12.out 0 (.int .i64 (fi (some y) : Int)) rfl
        have k1 := cellRow HB12.out 1 (.slice z7.1.1 (fq (some y) (P ++ [k])).length z7.1.2) rfl
        have l0 := cellRow HB13.out 0 (.string (ft (some y)).name) rfl
        have l1 := cellRow HB13.out 1 (.string (ft (some y)).sort) rfl
        have l2 := cellRow HB13.out 2 (.slice z7.2.1.1 (ft (some y)).kids.length z7.2.1.2) rfl
        have r0 := cellRow HB1A.out 0 (.int .i64 0) rfl
        have r1 := cellRow HB1A.out 1 (.slice none 0 0) rfl
        have d0 := cellRow HB2A.out 0 (.string ⟨#[]⟩) rfl
        have d1 := cellRow HB2A.out 1 (.string ⟨#[]⟩) rfl
        have d2 := cellRow HB2A.out 2 (.slice none 0 0) rfl
        have fr := fun i => frozenRow HB1A.out i
        have fd := fun i => frozenRow HB2A.out i
        have hUB := ((Upd.refl (fun j => j = w.heap.size + 1) wA).setCell (p := ⟨w.heap.size + 1, 0, none⟩) (.inl rfl) (.int .i64 (fi (some y) : Int))).setCell (p := ⟨w.heap.size + 1, 1, none⟩) (.inl rfl) (.slice z7.1.1 (fq (some y) (P ++ [k])).length z7.1.2)
        have hz13 : ¬ z13.1.2 = w.heap.size + 1 := by have := HZ13.out; omega
        have hz2 : ¬ w.heap.size + 2 = w.heap.size + 1 := by omega
        have m0 := hUB.cell l0 hz13
        have m1 := hUB.cell l1 hz13
        have m2 := hUB.cell l2 hz13
        have n0 := hUB.cell d0 hz2
        have n1 := hUB.cell d1 hz2
        have n2 := hUB.cell d2 hz2
        have fe := fun i => frozenRow (hUB.heap HB2A.out hz2) i
        clear hUB hz13 hz2
        simp only [Option.isSome_some]
        go_wp2_with fail
        go_region
        all_goals (go_wp2_with fail)
        have hb1 : ((wA.setCell ⟨w.heap.size + 1, 0, none⟩ (.int .i64 (fi (some y) : Int))).setCell ⟨w.heap.size + 1, 1, none⟩ (.slice z7.1.1 (fq (some y) (P ++ [k])).length z7.1.2)).heap[w.heap.size + 1]? = some (.cells #[.int .i64 (fi (some y) : Int), .slice z7.1.1 (fq (some y) (P ++ [k])).length z7.1.2] 71 (0, 0)) := by simpa using setBlock (setBlock HB1A.out 0 (.int .i64 (fi (some y) : Int))) 1 (.slice z7.1.1 (fq (some y) (P ++ [k])).length z7.1.2)
        have hu1 : Upd (fun j => j = w.heap.size + 1) wA ((wA.setCell ⟨w.heap.size + 1, 0, none⟩ (.int .i64 (fi (some y) : Int))).setCell ⟨w.heap.size + 1, 1, none⟩ (.slice z7.1.1 (fq (some y) (P ++ [k])).length z7.1.2)) := ((Upd.refl (fun j => j = w.heap.size + 1) wA).setCell (p := ⟨w.heap.size + 1, 0, none⟩) (.inl rfl) _).setCell (p := ⟨w.heap.size + 1, 1, none⟩) (.inl rfl) _
        have HB2B := Lib.hid (hu1.heap HB2A.out (by omega))
        clear k0 k1 l0 l1 l2 r0 r1 d0 d1 d2 fr fd m0 m1 m2 n0 n1 n2 fe
        generalize (wA.setCell ⟨w.heap.size + 1, 0, none⟩ (.int .i64 (fi (some y) : Int))).setCell ⟨w.heap.size + 1, 1, none⟩ (.slice z7.1.1 (fq (some y) (P ++ [k])).length z7.1.2) = wB at *
        have hr2 := set3_heap HB2B.out (.string (ft (some y)).name) (.string (ft (some y)).sort) (.slice z7.2.1.1 (ft (some y)).kids.length z7.2.1.2)
        have hu2 := set3_upd wB (w.heap.size + 2) (.string (ft (some y)).name) (.string (ft (some y)).sort) (.slice z7.2.1.1 (ft (some y)).kids.length z7.2.1.2)
        have hr1 := hu2.heap hb1 (by omega)
        have hu : Upd (fun j => j = w.heap.size + 1 ∨ j = w.heap.size + 2) wA _ := (hu1.mono (fun _ _ h => .inl h)).trans (hu2.mono (fun _ _ h => .inr h))
        replace hu := hu.drew
        have e0 := cellRow hr1 0 _ rfl
        have e1 := cellRow hr1 1 _ rfl
        have e2 := cellRow hr2 0 _ rfl
        have e3 := cellRow hr2 1 _ rfl
        have e4 := cellRow hr2 2 _ rfl
        have hq : fq (some (y.1, k :: y.2.1, y.2.2)) P = fq (some y) (P ++ [k]) := by simp [fq]
        have hwq : w.heap.size + 3 ≤ wq.heap.size := Nat.le_trans HSZ.out HQ.out.size
        refine bodyPost_ret (v := .tuple #[.agg #[.int .i64 (fi (some y) : Int), .slice z7.1.1 (fq (some y) (P ++ [k])).length z7.1.2], .agg #[.string (ft (some y)).name, .string (ft (some y)).sort, .slice z7.2.1.1 (ft (some y)).kids.length z7.2.1.2], .bool true]) (by simp [results, Tryz.results95, go_sem, e0, e1, e2, e3, e4]) rfl ⟨(z7.1, z7.2.1), z7.2.2, ?_, ?_, ?_, ?_⟩
        · rw [HVV.out, HVN.out]
          simp only [fdV, hq]
          rfl
        · rw [HVV.out, HVN.out]
          refine ⟨?_, HFA.out.1.part.kept hu (fun j hj e => by have h1 := (HFA.out.2 j hj).1; omega)⟩
          simp only [hq]
          exact SlR.kept HFA.out.1.path hu (fun j hj e => by have h1 := (HFA.out.2 j hj).1; omega)
        · exact fun j hj => ⟨by have h1 := (HFA.out.2 j hj).1; omega, Nat.lt_of_lt_of_le (HFA.out.2 j hj).2 hu.size⟩
        · exact HEW.out.trans' hu (fun j hj e => by omega)

    · obtain rfl : k = L.length := by omega
      have z2 : decide ((L.length : Int) < (L.length : Int)) = false := decide_eq_false (by omega)
      have hvn : V = none := by
        rw [← HVK.out, List.drop_length]
        unfold fndL
        rfl
      have hvw := HVV.out
      rw [hvn] at hvw
      have HFT : Hid (fndT l (mk nm so L) = (fstR 0 l (mk nm so L)).map (fun x => (x.1, [], x.2))) := Lib.hid hvw
      obtain ⟨V2, hV2⟩ : ∃ V2, fstR 0 l (mk nm so L) = V2 := ⟨_, rfl⟩
      rw [hV2] at HFT
      have HV2 := Lib.hid hV2
      clear hvn hvw hV2 HVK HVV HIH hk
      go_wp2_with fail
      obtain ⟨wa, hwa⟩ : ∃ wa, wa = wr := ⟨_, rfl⟩
      subst hwa
      go_loopg [44] l.length (fun gk iv wr => ∃ k : Nat, iv = .int .i64 (k : Int) ∧ gk = l.length - k ∧ k ≤ l.length ∧ Hid (fstR k (l.drop k) (mk nm so L) = V2) ∧ Hid (Ext w wr) ∧ Hid (wr.heap[w.heap.size]? = some (.cells #[.string nm, .string so, .slice a L.length cap] 25 (0, 0))) ∧ Hid (wr.heap[w.heap.size + 1]? = some (.cells #[.int .i64 0, .slice none 0 0] 71 (0, 0))) ∧ Hid (wr.heap[w.heap.size + 2]? = some (.cells #[.string ⟨#[]⟩, .string ⟨#[]⟩, .slice none 0 0] 25 (0, 0))) ∧ Hid (w.heap.size + 3 ≤ wr.heap.size))
      case atStart => exact ⟨0, rfl, rfl, Nat.zero_le _, HV2, HE, HB0, HB1, HB2, HSZ⟩
      case round =>
        clear HB0 HB1 HB2 HE HSZ HV2
        obtain ⟨k, rfl, rfl, hk, HVK, HE, HB0, HB1, HB2, HSZ⟩ := hrel
        by_cases hlt : k < l.length
        · obtain ⟨g, off, hga, _, hat⟩ := (HRL.out.ext HE.out).at_ (by omega)
          subst hga
          obtain ⟨xa, xc, ya, yc, q0, q1, q2, q3, q4, q5, hx, hy⟩ := hat k hlt
          have z0 : (0 : Int) ≤ (k : Int) := by omega
          have z1 : (k : Int) < (l.length : Int) := by omega
          have z2 : decide ((k : Int) < (l.length : Int)) = true := decide_eq_true z1
          have z2' : decide (k < l.length) = true := decide_eq_true hlt
          have HVN := Lib.hid (HVK.out.symm.trans (fstR_at l (mk nm so L) k hlt))
          have HSX := Lib.hid (HRS.out _ (rg_mem hlt))
          have HXR := Lib.hid (And.intro hx hy)
          obtain ⟨⟨x, y⟩, hxy⟩ : ∃ r, rg l k = r := ⟨_, rfl⟩
          rw [hxy] at q0 q1 q2 q3 q4 q5 HVN HSX HXR
          dsimp only at q0 q1 q2 q3 q4 q5 HVN HSX HXR
          have hQ := (Upd.refl (fun _ => False) wr).alloc (.cells #[.string x.name, .string x.sort, .slice xa x.kids.length xc, .string y.name, .string y.sort, .slice ya y.kids.length yc] 38)
          have HQ := Lib.hid hQ
          have hB5 := alloc0 wr (.cells #[.string x.name, .string x.sort, .slice xa x.kids.length xc, .string y.name, .string y.sort, .slice ya y.kids.length yc] 38)
          have b0 := cellRow hB5 0 (.string x.name) rfl
          have b1 := cellRow hB5 1 (.string x.sort) rfl
          have b2 := cellRow hB5 2 (.slice xa x.kids.length xc) rfl
          have b3 := cellRow hB5 3 (.string y.name) rfl
          have b4 := cellRow hB5 4 (.string y.sort) rfl
          have b5 := cellRow hB5 5 (.slice ya y.kids.length yc) rfl
          have HB0q := Lib.hid (hQ.heap HB0.out (fun h => h))
          have HB1q := Lib.hid (hQ.heap HB1.out (fun h => h))
          have HB2q := Lib.hid (hQ.heap HB2.out (fun h => h))
          have t0 := cellRow HB0q.out 0 (.string nm) rfl
          have t1 := cellRow HB0q.out 1 (.string so) rfl
          have t2 := cellRow HB0q.out 2 (.slice a L.length cap) rfl
          have HAP : Hid (∀ W, Ext (wr.alloc (.cells #[.string x.name, .string x.sort, .slice xa x.kids.length xc, .string y.name, .string y.sort, .slice ya y.kids.length yc] 38)) W → Calls Tryz.prog 119 #[.agg #[.string x.name, .string x.sort, .slice xa x.kids.length xc, .string y.name, .string y.sort, .slice ya y.kids.length yc], .agg #[.string nm, .string so, .slice a L.length cap]] W fun e w' => ∃ r, e = .returned r ∧ ApP (aplF (x, y) (mk nm so L)) W.heap.size w' r ∧ Ext W w') := Lib.hid (fun W hW => apply_x x y (mk nm so L) _ _ xa ya xc yc S T W ((HXR.out.1.ext HQ.out).ext hW) ((HXR.out.2.ext HQ.out).ext hW) rfl ⟨a, cap, rfl, (HTL.out.ext ((HE.out.trans HQ.out).trans hW))⟩ (fun j hj => Nat.lt_of_lt_of_le (HST.out.1 j hj) ((HE.out.trans HQ.out).trans hW).size) (fun j hj => Nat.lt_of_lt_of_le (HST.out.2 j hj) ((HE.out.trans HQ.out).trans hW).size) HSX.out.1 HSX.out.2 (by rw [size_eq]; exact HSL.out))
          obtain ⟨o, ho⟩ : ∃ o, aplF (x, y) (mk nm so L) = o := ⟨_, rfl⟩
          rw [ho] at HAP HVN
          clear hat hx hy hxy hQ hB5 HVK HB0 HB1 HB2 ho
          go_wp2_with fail
          refine (HAP.out _ (Upd.refl _ _)).mono ?_
          rintro e w4 ⟨rv, rfl, ⟨r, B, rfl, hTl, hbd⟩, hw4⟩
          obtain ⟨tt, htt⟩ : ∃ tt, o.getD default = tt := ⟨_, rfl⟩
          obtain ⟨bb, hbb⟩ : ∃ bb, o.isSome = bb := ⟨_, rfl⟩
          rw [htt] at hTl
          dsimp only [tV]
          rw [htt, hbb]
          obtain ⟨ra, rc, hr⟩ := TlO.shape hTl
          subst hr
          have hQ4 := (Upd.refl (fun _ => False) w4).alloc (.cells #[.string tt.name, .string tt.sort, .slice ra tt.kids.length rc] 25)
          have hb := alloc0 w4 (.cells #[.string tt.name, .string tt.sort, .slice ra tt.kids.length rc] 25)
          have H5 := Lib.hid ((HQ.out.trans hw4).trans hQ4)
          have HEW := Lib.hid (HE.out.trans H5.out)
          have HB0A := Lib.hid ((hw4.trans hQ4).heap HB0q.out (fun h => h))
          have HB1A := Lib.hid ((hw4.trans hQ4).heap HB1q.out (fun h => h))
          have HB2A := Lib.hid ((hw4.trans hQ4).heap HB2q.out (fun h => h))
          have HSA : Hid (w.heap.size + 3 ≤ (w4.alloc (.cells #[.string tt.name, .string tt.sort, .slice ra tt.kids.length rc] 25)).heap.size) := Lib.hid (Nat.le_trans HSZ.out H5.out.size)
          have HTA := Lib.hid (hTl.kept hQ4 (fun _ _ h => h))
          have HBA : Hid (∀ j, B j → w.heap.size + 3 ≤ j ∧ j < (w4.alloc (.cells #[.string tt.name, .string tt.sort, .slice ra tt.kids.length rc] 25)).heap.size) := Lib.hid (fun j hj => ⟨by have h1 := (hbd j hj).1; have h2 := HQ.out.size; have h3 := HSZ.out; omega, Nat.lt_of_lt_of_le (hbd j hj).2 hQ4.size⟩)
          have HN5 : Hid (w.heap.size + 3 ≤ w4.heap.size) := Lib.hid (Nat.le_trans HSZ.out (Nat.le_trans HQ.out.size hw4.size))
          have HB5A := Lib.hid hb
          clear b0 b1 b2 b3 b4 b5 t0 t1 t2 q0 q1 q2 q3 q4 q5 HAP hTl hbd hw4 hQ4 hb HB0q HB1q HB2q
          obtain ⟨n4, hn4⟩ : ∃ n4, w4.heap.size = n4 := ⟨_, rfl⟩
          rw [hn4] at HB5A HN5
          cases bb with
          | false =>
            have hon : o = none := by cases o with | none => rfl | some u => cases hbb
            subst hon
            have HVX : Hid (fstR (k + 1) (l.drop (k + 1)) (mk nm so L) = V2) := Lib.hid HVN.out.symm
            clear HB5A HTA HBA H5 htt hbb hn4 HVN
            go_wp2_with fail
            go_roundg (l.length - (k + 1))
            case measure => omega
            case rel => exact ⟨k + 1, by go_num, rfl, by omega, HVX, HEW, HB0A, HB1A, HB2A, HSA⟩
          | true =>
            obtain ⟨u, hou⟩ : ∃ u, o = some u := by cases o with | none => cases hbb | some u => exact ⟨u, rfl⟩
            subst hou
            simp only [Option.getD_some] at htt
            subst htt
            clear hbb
            have HVX : Hid (V2 = some (k, u)) := Lib.hid HVN.out
            have HWA : Hid (Ext (w4.alloc (.cells #[.string u.name, .string u.sort, .slice ra u.kids.length rc] 25)) (w4.alloc (.cells #[.string u.name, .string u.sort, .slice ra u.kids.length rc] 25))) := Lib.hid (Upd.refl _ _)
            have HCL2 : Hid (∀ W, Ext (w4.alloc (.cells #[.string u.name, .string u.sort, .slice ra u.kids.length rc] 25)) W → Calls Tryz.prog 120 #[.slice pa P.length pc] W fun e w' => ∃ ca cc, e = .returned (.slice ca P.length cc) ∧ SlR (fun j => (w4.alloc (.cells #[.string u.name, .string u.sort, .slice ra u.kids.length rc] 25)).heap.size ≤ j ∧ j < w'.heap.size) w' 1 (.slice ca P.length cc) P.length (P.map (fun i : Nat => Value.int .i64 (i : Int))) ∧ Ext (w4.alloc (.cells #[.string u.name, .string u.sort, .slice ra u.kids.length rc] 25)) w') := Lib.hid (fun W hW => (clonI_x P _ U W (SlR.kept HPL.out (HEW.out.trans hW) (fun _ _ h => h)) (by omega)).mono (by
              rintro e w' ⟨v', rfl, hS, hE⟩
              obtain ⟨ca, cc, hv⟩ := SlR.shape hS
              subst hv
              exact ⟨ca, cc, rfl, SlR.weaken hS (fun j hj => ⟨Nat.le_trans hW.size hj.1, hj.2⟩), hW.trans hE⟩))
            have g0 := cellRow HB5A.out 0 (.string u.name) rfl
            have g1 := cellRow HB5A.out 1 (.string u.sort) rfl
            have g2 := cellRow HB5A.out 2 (.slice ra u.kids.length rc) rfl
            have HN4 : Hid (¬ n4 = w.heap.size + 1) := Lib.hid (by have := HN5.out; omega)
            clear HVN
            go_upto_region 13 with fail
            try rw [hn4]
            clear hn4
            generalize w4.alloc (.cells #[.string u.name, .string u.sort, .slice ra u.kids.length rc] 25) = wA at *
            go_region_law (first
              | (go_simp; refine (HCL2.out wA.drew HWA.out.drew).mono ?_; rintro e w5 ⟨ca, cc, rfl, hS5, hw5⟩; have HS5 := Lib.hid hS5; have HW5 := Lib.hid hw5; have HB1c := Lib.hid (hw5.heap HB1A.out (fun h => h)); have HB2c := Lib.hid (hw5.heap HB2A.out (fun h => h)); have HB5c := hw5.heap HB5A.out (fun h => h); have r0 := cellRow HB1c.out 0 (.int .i64 0) rfl; have r1 := cellRow HB1c.out 1 (.slice none 0 0) rfl; have fr := fun i => frozenRow HB1c.out i; have k0 := cellRow HB5c 0 (.string u.name) rfl; have k1 := cellRow HB5c 1 (.string u.sort) rfl; have k2 := cellRow HB5c 2 (.slice ra u.kids.length rc) rfl; have hUB := ((Upd.refl (fun j => j = w.heap.size + 1) w5).setCell (p := ⟨w.heap.size + 1, 0, none⟩) (.inl rfl) (.int .i64 (k : Int))).setCell (p := ⟨w.heap.size + 1, 1, none⟩) (.inl rfl) (.slice ca P.length cc); have hz2 : ¬ w.heap.size + 2 = w.heap.size + 1 := (by omega); have m0 := hUB.cell k0 HN4.out; have m1 := hUB.cell k1 HN4.out; have m2 := hUB.cell k2 HN4.out; have hb2 := hUB.heap HB2c.out hz2; have n0 := cellRow hb2 0 (.string ⟨#[]⟩) rfl; have n1 := cellRow hb2 1 (.string ⟨#[]⟩) rfl; have n2 := cellRow hb2 2 (.slice none 0 0) rfl; have fe := fun i => frozenRow hb2 i; clear hS5 hw5 HB5c hUB hz2 hb2))
            all_goals
              go_wp2_with fail
              have hb1 : ((w5.setCell ⟨w.heap.size + 1, 0, none⟩ (.int .i64 (k : Int))).setCell ⟨w.heap.size + 1, 1, none⟩ (.slice ca P.length cc)).heap[w.heap.size + 1]? = some (.cells #[.int .i64 (k : Int), .slice ca P.length cc] 71 (0, 0)) := by simpa using setBlock (setBlock HB1c.out 0 (.int .i64 (k : Int))) 1 (.slice ca P.length cc)
              have hu1 : Upd (fun j => j = w.heap.size + 1) w5 ((w5.setCell ⟨w.heap.size + 1, 0, none⟩ (.int .i64 (k : Int))).setCell ⟨w.heap.size + 1, 1, none⟩ (.slice ca P.length cc)) := ((Upd.refl (fun j => j = w.heap.size + 1) w5).setCell (p := ⟨w.heap.size + 1, 0, none⟩) (.inl rfl) _).setCell (p := ⟨w.heap.size + 1, 1, none⟩) (.inl rfl) _
              have HB2B := Lib.hid (hu1.heap HB2c.out (by omega))
              clear g0 g1 g2 k0 k1 k2 r0 r1 fr m0 m1 m2 n0 n1 n2 fe
              generalize (w5.setCell ⟨w.heap.size + 1, 0, none⟩ (.int .i64 (k : Int))).setCell ⟨w.heap.size + 1, 1, none⟩ (.slice ca P.length cc) = wB at *
              have hr2 := set3_heap HB2B.out (.string u.name) (.string u.sort) (.slice ra u.kids.length rc)
              have hu2 := set3_upd wB (w.heap.size + 2) (.string u.name) (.string u.sort) (.slice ra u.kids.length rc)
              have hr1 := hu2.heap hb1 (by omega)
              have hu : Upd (fun j => j = w.heap.size + 1 ∨ j = w.heap.size + 2) w5 _ := (hu1.mono (fun _ _ h => .inl h)).trans (hu2.mono (fun _ _ h => .inr h))
              have e0 := cellRow hr1 0 _ rfl
              have e1 := cellRow hr1 1 _ rfl
              have e2 := cellRow hr2 0 _ rfl
              have e3 := cellRow hr2 1 _ rfl
              have e4 := cellRow hr2 2 _ rfl
              have hsz5 := HSA.out
              have hsw5 := HW5.out.size
              refine bodyPost_ret (v := .tuple #[.agg #[.int .i64 (k : Int), .slice ca P.length cc], .agg #[.string u.name, .string u.sort, .slice ra u.kids.length rc], .bool true]) (by simp [results, Tryz.results95, go_sem, e0, e1, e2, e3, e4]) rfl ⟨((ca, cc), (ra, rc)), fun j => (wA.heap.size ≤ j ∧ j < w5.heap.size) ∨ B j, ?_, ?_, ?_, ?_⟩
              · rw [HFT.out, HVX.out]
                simp only [fdV, Option.map_some, fq, fi, ft, List.append_nil]
                rfl
              · rw [HFT.out, HVX.out]
                refine ⟨?_, ?_⟩
                · simp only [Option.map_some, fq, List.append_nil]
                  exact (SlR.kept HS5.out hu (fun j hj e => by omega)).weaken (fun j hj => .inl hj)
                · exact ((HTA.out.kept HW5.out (fun _ _ h => h)).kept hu (fun j hj e => by have h1 := (HBA.out j hj).1; omega)).weaken (fun j hj => .inr hj)
              · rintro j (hj | hj)
                · exact ⟨by omega, Nat.lt_of_lt_of_le hj.2 hu.size⟩
                · exact ⟨by have h1 := (HBA.out j hj).1; omega, Nat.lt_of_lt_of_le (HBA.out j hj).2 (Nat.le_trans hsw5 hu.size)⟩
              · exact (HEW.out.trans HW5.out).trans' hu (fun j hj e => by omega)
        · obtain rfl : k = l.length := by omega
          have z3 : decide ((l.length : Int) < (l.length : Int)) = false := decide_eq_false (by omega)
          have hvn : V2 = none := by
            rw [← HVK.out, List.drop_length]
            rfl
          have HV3 : Hid (fndT l (mk nm so L) = none) := Lib.hid (by rw [HFT.out, hvn]; rfl)
          clear hvn HVK HFT
          have r0 := cellRow HB1.out 0 (.int .i64 0) rfl
          have r1 := cellRow HB1.out 1 (.slice none 0 0) rfl
          have d0 := cellRow HB2.out 0 (.string ⟨#[]⟩) rfl
          have d1 := cellRow HB2.out 1 (.string ⟨#[]⟩) rfl
          have d2 := cellRow HB2.out 2 (.slice none 0 0) rfl
          have fr := fun i => frozenRow HB1.out i
          have hUB := ((Upd.refl (fun j => j = w.heap.size + 1) wr).setCell (p := ⟨w.heap.size + 1, 0, none⟩) (.inl rfl) (.int .i64 0)).setCell (p := ⟨w.heap.size + 1, 1, none⟩) (.inl rfl) (.slice none 0 0)
          have hz2 : ¬ w.heap.size + 2 = w.heap.size + 1 := by omega
          have n0 := hUB.cell d0 hz2
          have n1 := hUB.cell d1 hz2
          have n2 := hUB.cell d2 hz2
          have fe := fun i => frozenRow (hUB.heap HB2.out hz2) i
          have hb1 : ((wr.setCell ⟨w.heap.size + 1, 0, none⟩ (.int .i64 0)).setCell ⟨w.heap.size + 1, 1, none⟩ (.slice none 0 0)).heap[w.heap.size + 1]? = some (.cells #[.int .i64 0, .slice none 0 0] 71 (0, 0)) := by simpa using setBlock (setBlock HB1.out 0 (.int .i64 0)) 1 (.slice none 0 0)
          have HB1B := Lib.hid hb1
          have HB2B := Lib.hid (hUB.heap HB2.out hz2)
          have HUB := Lib.hid hUB
          clear hUB hz2 hb1
          go_wp2_with fail
          clear r0 r1 d0 d1 d2 fr n0 n1 n2 fe
          generalize (wr.setCell ⟨w.heap.size + 1, 0, none⟩ (.int .i64 0)).setCell ⟨w.heap.size + 1, 1, none⟩ (.slice none 0 0) = wB at *
          have hr2 := set3_heap HB2B.out (.string ⟨#[]⟩) (.string ⟨#[]⟩) (.slice none 0 0)
          have hu2 := set3_upd wB (w.heap.size + 2) (.string ⟨#[]⟩) (.string ⟨#[]⟩) (.slice none 0 0)
          have hr1 := hu2.heap HB1B.out (by omega)
          have hu : Upd (fun j => j = w.heap.size + 1 ∨ j = w.heap.size + 2) wr _ := (HUB.out.mono (fun _ _ h => .inl h)).trans (hu2.mono (fun _ _ h => .inr h))
          have e0 := cellRow hr1 0 _ rfl
          have e1 := cellRow hr1 1 _ rfl
          have e2 := cellRow hr2 0 _ rfl
          have e3 := cellRow hr2 1 _ rfl
          have e4 := cellRow hr2 2 _ rfl
          refine bodyPost_ret (v := .tuple #[.agg #[.int .i64 0, .slice none 0 0], .agg #[.string ⟨#[]⟩, .string ⟨#[]⟩, .slice none 0 0], .bool false]) (by simp [results, Tryz.results95, go_sem, e0, e1, e2, e3, e4]) rfl ⟨((none, 0), (none, 0)), fun _ => False, ?_, ?_, fun _ h => h.elim, ?_⟩
          · rw [HV3.out]; rfl
          · rw [HV3.out]
            exact ⟨SlR.nil _ _ _, TlO.nil _ _ _⟩
          · exact HE.out.trans' hu (fun j hj e => by omega)


end Go.Proofs.YtiimccogojkldaaGreatDoor

/- The size of what a rewriting leaves: pure. -/
namespace Go.Hw
open Tm
set_option linter.unusedVariables false
set_option linter.unusedSimpArgs false
theorem mtch_size (N : Nat) : ∀ (p t : Tm) (σ τ : Sb), mtch p t σ = some τ → t.size ≤ N → (∀ n x, σ n = some x → x.size ≤ N) → ∀ n x, τ n = some x → x.size ≤ N := by
  refine Tm.ind (fun n s L ih => ?_)
  intro t σ τ h ht hσ
  by_cases hs : s = nul
  · subst hs
    by_cases hc : t.sort = nul ∧ t.name = n ∧ t.kids.length = L.length
    · rw [mtch_op hc] at h
      have key : ∀ (L M : List Tm), (∀ x ∈ L, ∀ (t : Tm) (σ τ : Sb), mtch x t σ = some τ → t.size ≤ N → (∀ n x, σ n = some x → x.size ≤ N) → ∀ n x, τ n = some x → x.size ≤ N) → (∀ x ∈ M, x.size ≤ N) → ∀ σ τ, mtchL L M σ = some τ → (∀ n x, σ n = some x → x.size ≤ N) → ∀ n x, τ n = some x → x.size ≤ N := by
        intro L
        induction L with
        | nil =>
          intro M _ _ σ τ h hσ
          unfold mtchL at h
          injection h with h
          subst h
          exact hσ
        | cons a L ihL =>
          intro M hx hM σ τ h hσ
          cases M with
          | nil => unfold mtchL at h; cases h
          | cons b M =>
            unfold mtchL at h
            cases hm : mtch a b σ with
            | none => rw [hm] at h; cases h
            | some υ =>
              rw [hm] at h
              exact ihL M (fun x hx' => hx x (List.mem_cons_of_mem _ hx')) (fun x hx' => hM x (List.mem_cons_of_mem _ hx')) υ τ h (hx a (List.mem_cons_self ..) b σ υ hm (hM b (List.mem_cons_self ..)) hσ)
      exact key L t.kids ih (fun x hx => by have := size_kid hx; omega) σ τ h hσ
    · rw [mtch_no hc] at h
      cases h
  · cases hx : σ n with
    | some x =>
      rw [mtch_some hs hx] at h
      split at h
      · injection h with h
        subst h
        exact hσ
      · cases h
    | none =>
      rw [mtch_new hs hx] at h
      split at h
      · cases h
      · injection h with h
        subst h
        intro m x hm
        have hm : (if m = n then some t else σ m) = some x := hm
        split at hm
        · injection hm with hm
          subst hm
          exact ht
        · exact hσ m x hm
theorem fil_size (N : Nat) (h1 : 1 ≤ N) (σ : Sb) (hσ : ∀ n x, σ n = some x → x.size ≤ N) : ∀ t : Tm, (filT σ t).size ≤ t.size * N := by
  refine Tm.ind (fun n s L ih => ?_)
  by_cases hs : s = nul
  · subst hs
    rw [filT_op]
    have key : ∀ M : List Tm, (∀ x ∈ M, (filT σ x).size ≤ x.size * N) → sizes (M.map (filT σ)) ≤ sizes M * N := by
      intro M
      induction M with
      | nil => intro _; simp [sizes]
      | cons a M ihM =>
        intro h
        have g1 := h a (List.mem_cons_self ..)
        have g2 := ihM (fun x hx => h x (List.mem_cons_of_mem _ hx))
        simp only [List.map_cons, sizes, Nat.add_mul]
        omega
    have h2 := key L ih
    have e1 : (Tm.mk n nul (L.map (filT σ))).size = sizes (L.map (filT σ)) + 1 := rfl
    have e2 : (Tm.mk n nul L).size = sizes L + 1 := rfl
    rw [e1, e2, Nat.add_mul]
    omega
  · rw [filT_var σ hs]
    have e2 : (Tm.mk n s L).size = sizes L + 1 := rfl
    rw [e2, Nat.add_mul, Nat.one_mul]
    cases h : σ n with
    | none =>
      have : ((none : Option Tm).getD default).size = 1 := rfl
      omega
    | some x =>
      have := hσ n x h
      rw [Option.getD_some]
      omega
theorem apl_size {r : Rl} {t u : Tm} (h : aplF r t = some u) : u.size ≤ r.2.size * t.size := by
  unfold aplF at h
  cases hm : mtch r.1 t sb0 with
  | none => rw [hm] at h; cases h
  | some σ =>
    rw [hm] at h
    injection h with h
    subst h
    exact fil_size t.size (size_pos t) σ (mtch_size t.size r.1 t sb0 σ hm (Nat.le_refl _) (fun n x h => by cases h)) r.2
theorem tmAt_size' : ∀ (p : List Nat) (t : Tm), okP t p → (tmAt t p).size ≤ t.size
  | [], t, _ => Nat.le_refl _
  | i :: p, t, h => by
    have h1 := tmAt_size' p _ h.2
    have h2 : (tg t.kids i).size < t.size := size_kid (by unfold tg; rw [List.getD_eq_getElem?_getD, List.getElem?_eq_getElem h.1]; exact List.getElem_mem h.1)
    show (tmAt (tg t.kids i) p).size ≤ _
    omega
theorem fnd_size {l : List Rl} {t : Tm} {i : Nat} {p : List Nat} {u : Tm} {N : Nat} (h : fndT l t = some (i, p, u)) (hl : ∀ r ∈ l, r.2.size ≤ N) : u.size ≤ N * t.size := by
  obtain ⟨h1, h2, h3⟩ := fndT_ok l t i p u h
  have h4 := apl_size h3
  have h5 := hl _ (rg_mem h2)
  have h6 := tmAt_size' p t h1
  exact Nat.le_trans h4 (Nat.mul_le_mul h5 h6)
theorem okP_len : ∀ (p : List Nat) (t : Tm), okP t p → p.length < t.size
  | [], t, _ => size_pos t
  | i :: p, t, h => by
    have h1 := okP_len p _ h.2
    have h2 : (tg t.kids i).size < t.size := size_kid (by unfold tg; rw [List.getD_eq_getElem?_getD, List.getElem?_eq_getElem h.1]; exact List.getElem_mem h.1)
    simp only [List.length_cons]
    omega
end Go.Hw

/- step, Step. -/
namespace Go.Proofs.YtiimccogojkldaaGreatDoor
open Go.RowKit Go.Hw Go
set_option linter.unusedVariables false
set_option linter.unusedSimpArgs false

open Tm
/-- what a step answers -/
def stepF (l : List Rl) (t : Tm) : Tm × (Nat × List Nat) × Int := match fndT l t with
  | none => (nulT, (0, []), 12)
  | some x => if (putF t x.2.1 x.2.2).2 = 0 then ((putF t x.2.1 x.2.2).1, (x.1, x.2.1), 0) else (nulT, (0, []), (putF t x.2.1 x.2.2).2)
def StepP (n0 : Nat) (F : Tm × (Nat × List Nat) × Int) (e : Ending) (w' : World) : Prop := ∃ r pv, e = .returned (.tuple #[tV F.1 r, .agg #[.int .i64 (F.2.1.1 : Int), pv], .int .i64 F.2.2]) ∧ TlR (fun k => n0 ≤ k ∧ k < w'.heap.size) w' F.1.kids r ∧ SlR (fun k => n0 ≤ k ∧ k < w'.heap.size) w' 1 pv F.2.1.2.length (F.2.1.2.map (fun i : Nat => Value.int .i64 (i : Int)))
theorem StepP.mk {n0 : Nat} {F : Tm × (Nat × List Nat) × Int} {e : Ending} {w' : World} (r pv : Value) (h1 : e = .returned (.tuple #[tV F.1 r, .agg #[.int .i64 (F.2.1.1 : Int), pv], .int .i64 F.2.2])) (h2 : TlR (fun k => n0 ≤ k ∧ k < w'.heap.size) w' F.1.kids r) (h3 : SlR (fun k => n0 ≤ k ∧ k < w'.heap.size) w' 1 pv F.2.1.2.length (F.2.1.2.map (fun i : Nat => Value.int .i64 (i : Int)))) : StepP n0 F e w' := ⟨r, pv, h1, h2, h3⟩
theorem StepP.zero {n0 : Nat} {F : Tm × (Nat × List Nat) × Int} {e : Ending} {w' : World} {c : Int} (hF : F = (nulT, (0, []), c)) (h : e = .returned (.tuple #[.agg #[.string ⟨#[]⟩, .string ⟨#[]⟩, .slice none 0 0], .agg #[.int .i64 0, .slice none 0 0], .int .i64 c])) : StepP n0 F e w' := by
  subst hF
  exact ⟨_, _, h, TlR.nil _ _, SlR.nil _ _ _⟩
set_option maxRecDepth 100000 in
set_option maxHeartbeats 2000000 in
theorem step_x (l : List Rl) (t : Tm) (lv v : Value) (w : World) (hL : RuR (fun k => k < w.heap.size) w l lv) (hT : TmR (fun k => k < w.heap.size) w t v) (htab : AscT w) (hll : l.length ≤ 1000000) (hls : ∀ r ∈ l, r.1.size ≤ 300 ∧ r.2.size ≤ 300) (hsz : t.size ≤ 300) :
    Calls Tryz.prog 70 #[lv, v] w fun e w' => StepP w.heap.size (stepF l t) e w' ∧ Ext w w' := by
  have HFD := Lib.hid (fun W (hW : Ext w W) => rfind_x l hll (fun r hr => ⟨by have := (hls r hr).1; omega, by have := (hls r hr).2; omega⟩) t v lv (.slice none 0 0) (fun k => k < w.heap.size) (fun k => k < w.heap.size) (fun _ => False) [] W (hT.ext hW) (hL.ext hW) (SlR.nil _ _ _) (fun k hk => Nat.lt_of_lt_of_le hk hW.size) (fun k hk => Nat.lt_of_lt_of_le hk hW.size) (by omega) (by simp; omega))
  have HTR := Lib.hid hT
  obtain ⟨a, cap, rfl, hT⟩ := hT
  obtain ⟨la, lc, rfl⟩ := hL.shape
  have HAS := Lib.hid htab
  have HSZ := Lib.hid (And.intro hls hsz)
  have HE0 := Lib.hid ((((Upd.refl (fun _ => False) w).alloc (.cells #[.string t.name, .string t.sort, .slice a t.kids.length cap] 25)).alloc (.cells #[.string ⟨#[]⟩, .string ⟨#[]⟩, .slice none 0 0] 25)).alloc (.cells #[.int .i64 0, .slice none 0 0] 71))
  have HB0 := Lib.hid (allocOld (allocOld (alloc0 w (.cells #[.string t.name, .string t.sort, .slice a t.kids.length cap] 25)) (.cells #[.string ⟨#[]⟩, .string ⟨#[]⟩, .slice none 0 0] 25)) (.cells #[.int .i64 0, .slice none 0 0] 71))
  have HB1 := Lib.hid (allocOld (alloc_at (w.alloc (.cells #[.string t.name, .string t.sort, .slice a t.kids.length cap] 25)) (.cells #[.string ⟨#[]⟩, .string ⟨#[]⟩, .slice none 0 0] 25) (n := w.heap.size + 1) (by simp)) (.cells #[.int .i64 0, .slice none 0 0] 71))
  have HB2 := Lib.hid (alloc_at ((w.alloc (.cells #[.string t.name, .string t.sort, .slice a t.kids.length cap] 25)).alloc (.cells #[.string ⟨#[]⟩, .string ⟨#[]⟩, .slice none 0 0] 25)) (.cells #[.int .i64 0, .slice none 0 0] 71) (n := w.heap.size + 2) (by simp))
  have hz0 : (((w.alloc (.cells #[.string t.name, .string t.sort, .slice a t.kids.length cap] 25)).alloc (.cells #[.string ⟨#[]⟩, .string ⟨#[]⟩, .slice none 0 0] 25)).alloc (.cells #[.int .i64 0, .slice none 0 0] 71)).heap.size = w.heap.size + 3 := by simp
  have HZ0 := Lib.hid hz0
  have c0 := cellRow HB0.out 0 (.string t.name) rfl
  have c1 := cellRow HB0.out 1 (.string t.sort) rfl
  have c2 := cellRow HB0.out 2 (.slice a t.kids.length cap) rfl
  dsimp only [tV] at HFD ⊢
  obtain ⟨F, hF⟩ : ∃ F, stepF l t = F := ⟨_, rfl⟩
  have HF := Lib.hid hF
  rw [hF]
  clear hL hT htab hll hls hsz hz0 hF
  go_enter Tryz.func70, Tryz.ntmps70
  go_wp2_with fail
  refine (HFD.out _ HE0.out).mono ?_
  rintro e w4 ⟨⟨⟨pa, pc⟩, ua, uc⟩, B, rfl, hfd, hbd, hw4⟩
  obtain ⟨o, ho⟩ : ∃ o, fndT l t = o := ⟨_, rfl⟩
  have HO := Lib.hid ho
  rw [ho] at hfd ⊢
  clear ho c0 c1 c2 HFD
  dsimp only [fdV]
  cases o with
  | none =>
    rw [show (fq none []).length = 0 from rfl, show (ft none).name = ⟨#[]⟩ from rfl, show (ft none).sort = ⟨#[]⟩ from rfl, show (ft none).kids.length = 0 from rfl, show ((fi none : Nat) : Int) = 0 from rfl]
    have hQ0 := ((Upd.refl (fun _ => False) w4).alloc (.cells #[.int .i64 0, .slice pa 0 pc] 71)).alloc (.cells #[.string ⟨#[]⟩, .string ⟨#[]⟩, .slice ua 0 uc] 25)
    have H5 := Lib.hid ((HE0.out.trans hw4).trans hQ0)
    have HB05 := Lib.hid ((hw4.trans hQ0).heap HB0.out (fun h => h))
    have HBA := Lib.hid ((hw4.trans hQ0).heap HB1.out (fun h => h))
    have HBC := Lib.hid ((hw4.trans hQ0).heap HB2.out (fun h => h))
    have H7 := Lib.hid (allocOld (alloc0 w4 (.cells #[.int .i64 0, .slice pa 0 pc] 71)) (.cells #[.string ⟨#[]⟩, .string ⟨#[]⟩, .slice ua 0 uc] 25))
    have H8 := Lib.hid (alloc_at (w4.alloc (.cells #[.int .i64 0, .slice pa 0 pc] 71)) (.cells #[.string ⟨#[]⟩, .string ⟨#[]⟩, .slice ua 0 uc] 25) (n := w4.heap.size + 1) (by simp))
    have HS4 : Hid (w.heap.size + 3 ≤ w4.heap.size) := Lib.hid (by rw [← HZ0.out]; exact hw4.size)
    have HQ := Lib.hid hQ0
    clear HB0 HB1 HB2
    simp only [Option.isSome_none]
    have HFN : Hid (F = (nulT, (0, []), 12)) := Lib.hid (by rw [← HF.out]; unfold stepF; rw [HO.out])
    clear H7 H8 HF
    have d0 := cellRow HBA.out 0 (.string ⟨#[]⟩) rfl
    have d1 := cellRow HBA.out 1 (.string ⟨#[]⟩) rfl
    have d2 := cellRow HBA.out 2 (.slice none 0 0) rfl
    have fd := fun i => frozenRow HBA.out i
    have hUB := set3_upd ((w4.alloc (.cells #[.int .i64 0, .slice pa 0 pc] 71)).alloc (.cells #[.string ⟨#[]⟩, .string ⟨#[]⟩, .slice ua 0 uc] 25)) (w.heap.size + 1) (.string ⟨#[]⟩) (.string ⟨#[]⟩) (.slice none 0 0)
    have hb2 := hUB.heap HBC.out (by omega)
    have r0 := cellRow hb2 0 (.int .i64 0) rfl
    have r1 := cellRow hb2 1 (.slice none 0 0) rfl
    have fr := fun i => frozenRow hb2 i
    clear hUB hb2
    go_wp2_with fail
    generalize ((w4.alloc (.cells #[.int .i64 0, .slice pa 0 pc] 71)).alloc (.cells #[.string ⟨#[]⟩, .string ⟨#[]⟩, .slice ua 0 uc] 25)) = w5 at *
    have hr1 := set3_heap HBA.out (.string ⟨#[]⟩) (.string ⟨#[]⟩) (.slice none 0 0)
    have hu1 := set3_upd w5 (w.heap.size + 1) (.string ⟨#[]⟩) (.string ⟨#[]⟩) (.slice none 0 0)
    have hb2 := hu1.heap HBC.out (by omega)
    clear d0 d1 d2 fd r0 r1 fr 
    generalize ((w5.setCell ⟨w.heap.size + 1, 0, none⟩ (.string ⟨#[]⟩)).setCell ⟨w.heap.size + 1, 1, none⟩ (.string ⟨#[]⟩)).setCell ⟨w.heap.size + 1, 2, none⟩ (.slice none 0 0) = wB at *
    have hr2 : ((wB.setCell ⟨w.heap.size + 2, 0, none⟩ (.int .i64 0)).setCell ⟨w.heap.size + 2, 1, none⟩ (.slice none 0 0)).heap[w.heap.size + 2]? = some (.cells #[.int .i64 0, .slice none 0 0] 71 (0, 0)) := by simpa using setBlock (setBlock hb2 0 (.int .i64 0)) 1 (.slice none 0 0)
    have hu2 : Upd (fun j => j = w.heap.size + 2) wB ((wB.setCell ⟨w.heap.size + 2, 0, none⟩ (.int .i64 0)).setCell ⟨w.heap.size + 2, 1, none⟩ (.slice none 0 0)) := ((Upd.refl (fun j => j = w.heap.size + 2) wB).setCell (p := ⟨w.heap.size + 2, 0, none⟩) (.inl rfl) _).setCell (p := ⟨w.heap.size + 2, 1, none⟩) (.inl rfl) _
    have hr3 := hu2.heap hr1 (by omega)
    have hu : Upd (fun j => j = w.heap.size + 1 ∨ j = w.heap.size + 2) w5 _ := (hu1.mono (fun _ _ h => .inl h)).trans (hu2.mono (fun _ _ h => .inr h))
    have e0 := cellRow hr3 0 _ rfl
    have e1 := cellRow hr3 1 _ rfl
    have e2 := cellRow hr3 2 _ rfl
    have e3 := cellRow hr2 0 _ rfl
    have e4 := cellRow hr2 1 _ rfl
    refine bodyPost_ret (v := .tuple #[.agg #[.string ⟨#[]⟩, .string ⟨#[]⟩, .slice none 0 0], .agg #[.int .i64 0, .slice none 0 0], .int .i64 12]) (by simp [results, Tryz.results70, go_sem, e0, e1, e2, e3, e4]) rfl ?_
    exact ⟨StepP.zero HFN.out rfl, H5.out.trans' hu (fun j hj e => by omega)⟩
  | some y =>
    obtain ⟨i, p, u⟩ := y
    have hfq : fq (some (i, p, u)) [] = p := by simp [fq]
    have hft : ft (some (i, p, u)) = u := rfl
    have hfi : fi (some (i, p, u)) = i := rfl
    rw [hfq, hft, hfi]
    obtain ⟨hpath, hpart⟩ := hfd
    rw [hfq] at hpath
    rw [hft] at hpart
    dsimp only at hpath hpart
    have hQ0 := ((Upd.refl (fun _ => False) w4).alloc (.cells #[.int .i64 (i : Int), .slice pa p.length pc] 71)).alloc (.cells #[.string u.name, .string u.sort, .slice ua u.kids.length uc] 25)
    have H5 := Lib.hid ((HE0.out.trans hw4).trans hQ0)
    have HB05 := Lib.hid ((hw4.trans hQ0).heap HB0.out (fun h => h))
    have HBA := Lib.hid ((hw4.trans hQ0).heap HB1.out (fun h => h))
    have HBC := Lib.hid ((hw4.trans hQ0).heap HB2.out (fun h => h))
    have H7 := Lib.hid (allocOld (alloc0 w4 (.cells #[.int .i64 (i : Int), .slice pa p.length pc] 71)) (.cells #[.string u.name, .string u.sort, .slice ua u.kids.length uc] 25))
    have H8 := Lib.hid (alloc_at (w4.alloc (.cells #[.int .i64 (i : Int), .slice pa p.length pc] 71)) (.cells #[.string u.name, .string u.sort, .slice ua u.kids.length uc] 25) (n := w4.heap.size + 1) (by simp))
    have HS4 : Hid (w.heap.size + 3 ≤ w4.heap.size) := Lib.hid (by rw [← HZ0.out]; exact hw4.size)
    have HQ := Lib.hid hQ0
    clear HB0 HB1 HB2
    replace hpath := SlR.kept hpath hQ0 (fun _ _ h => h)
    replace hpart := hpart.kept hQ0 (fun _ _ h => h)
    simp only [Option.isSome_some]
    have hpo := fndT_ok l t i p u HO.out
    have husz := fnd_size (N := 300) HO.out (fun r hr => (HSZ.out.1 r hr).2)
    have hpl := okP_len p t hpo.1
    have hts := HSZ.out.2
    have husz2 : u.size ≤ 100000 := Nat.le_trans (Nat.le_trans husz (Nat.mul_le_mul_left 300 hts)) (by decide)
    have HPT := Lib.hid (fun W (hW : Ext ((w4.alloc (.cells #[.int .i64 (i : Int), .slice pa p.length pc] 71)).alloc (.cells #[.string u.name, .string u.sort, .slice ua u.kids.length uc] 25)) W) => put_x t u p (.agg #[.string t.name, .string t.sort, .slice a t.kids.length cap]) (.agg #[.string u.name, .string u.sort, .slice ua u.kids.length uc]) (.slice pa p.length pc) (fun k => k < W.heap.size) B B W ((HTR.out.ext (H5.out.trans hW)).weaken (fun k hk => Nat.lt_of_lt_of_le hk (H5.out.trans hW).size)) ⟨ua, uc, rfl, (hpart.kept hW (fun _ _ h => h)).read⟩ (fun k hk => hk) (fun k hk => Nat.lt_of_lt_of_le (hbd k hk).2 (Nat.le_trans HQ.out.size hW.size)) (SlR.kept hpath hW (fun _ _ h => h)) hpo.1 (asc_ext HAS.out (H5.out.trans hW)) (by omega) husz2 (by omega))
    have HPA := Lib.hid (And.intro hpath hbd)
    have HFN : Hid (F = if (putF t p u).2 = 0 then ((putF t p u).1, (i, p), 0) else (nulT, (0, []), (putF t p u).2)) := Lib.hid (by rw [← HF.out]; unfold stepF; rw [HO.out])
    obtain ⟨G, hG⟩ : ∃ G, putF t p u = G := ⟨_, rfl⟩
    have hG2 : G.2 = 0 ∨ G.2 = 4 := by
      rw [← hG]
      unfold putF
      split
      · exact .inl rfl
      · exact .inr rfl
    rw [hG] at HPT HFN
    have c0 := cellRow HB05.out 0 (.string t.name) rfl
    have c1 := cellRow HB05.out 1 (.string t.sort) rfl
    have c2 := cellRow HB05.out 2 (.slice a t.kids.length cap) rfl
    have m0 := cellRow H7.out 0 (.int .i64 (i : Int)) rfl
    have m1 := cellRow H7.out 1 (.slice pa p.length pc) rfl
    have n0 := cellRow H8.out 0 (.string u.name) rfl
    have n1 := cellRow H8.out 1 (.string u.sort) rfl
    have n2 := cellRow H8.out 2 (.slice ua u.kids.length uc) rfl
    clear hpath hpart hbd hfq hft hfi hpo husz husz2 hpl hts HF hG HSZ HTR HAS hw4 hQ0
    go_wp2_with fail
    refine (HPT.out _ (Upd.refl _ _)).mono ?_
    rintro e w6 ⟨r, rfl, hTl, hw6⟩
    obtain ⟨z, c⟩ := G
    dsimp only at hTl hG2 HFN ⊢
    obtain ⟨za, zc, hr⟩ := hTl.shape
    subst hr
    have hQ6 := (Upd.refl (fun _ => False) w6).alloc (.cells #[.string z.name, .string z.sort, .slice za z.kids.length zc] 25)
    have H9 := Lib.hid ((H5.out.trans hw6).trans hQ6)
    have HBA9 := Lib.hid ((hw6.trans hQ6).heap HBA.out (fun h => h))
    have HBC9 := Lib.hid ((hw6.trans hQ6).heap HBC.out (fun h => h))
    have H79 := Lib.hid ((hw6.trans hQ6).heap H7.out (fun h => h))
    have H69 := Lib.hid (alloc0 w6 (.cells #[.string z.name, .string z.sort, .slice za z.kids.length zc] 25))
    have HTZ0 : Hid (TlR (fun k => w.heap.size + 3 ≤ k ∧ k < (w6.alloc (.cells #[.string z.name, .string z.sort, .slice za z.kids.length zc] 25)).heap.size) (w6.alloc (.cells #[.string z.name, .string z.sort, .slice za z.kids.length zc] 25)) z.kids (.slice za z.kids.length zc)) := Lib.hid ((hTl.ext hQ6).weaken (fun k hk => by
      have h1 := hQ6.size
      have h2 := hw6.size
      have h3 := HQ.out.size
      have h4 := HS4.out
      rcases hk with hk | hk
      · omega
      · have h5 := HPA.out.2 k hk
        have h6 := HZ0.out
        omega))
    have HTZ := Lib.hid HTZ0.out
    clear HTZ0
    have HS6 : Hid (w.heap.size + 3 ≤ w6.heap.size) := Lib.hid (Nat.le_trans HS4.out (Nat.le_trans HQ.out.size hw6.size))
    have HPA9 := Lib.hid (And.intro (SlR.kept HPA.out.1 (hw6.trans hQ6) (fun _ _ h => h)) (fun k hk => And.intro (show w.heap.size + 3 ≤ k by have := (HPA.out.2 k hk).1; have := HZ0.out; omega) (Nat.lt_of_lt_of_le (HPA.out.2 k hk).2 (Nat.le_trans HQ.out.size (hw6.trans hQ6).size))))
    have HN4 := Lib.hid HS4.out
    clear hTl hQ6 hw6 HPT c0 c1 c2 m0 m1 n0 n1 n2 H7 H8 HB05 HBA HBC HQ HPA HS4
    dsimp only [tV]
    obtain ⟨n6, hn6⟩ : ∃ n, w6.heap.size = n := ⟨_, rfl⟩
    rw [hn6] at H69 HS6
    rcases hG2 with rfl | rfl
    · have HFZ : Hid (F = (z, (i, p), 0)) := Lib.hid (by rw [HFN.out, if_pos rfl])
      have k0 := cellRow H69.out 0 (.string z.name) rfl
      have k1 := cellRow H69.out 1 (.string z.sort) rfl
      have k2 := cellRow H69.out 2 (.slice za z.kids.length zc) rfl
      have m0 := cellRow H79.out 0 (.int .i64 (i : Int)) rfl
      have m1 := cellRow H79.out 1 (.slice pa p.length pc) rfl
      have HBA := Lib.hid HBA9.out
      have HBC := Lib.hid HBC9.out
      clear HFN HBA9 HBC9
      have d0 := cellRow HBA.out 0 (.string ⟨#[]⟩) rfl
      have d1 := cellRow HBA.out 1 (.string ⟨#[]⟩) rfl
      have d2 := cellRow HBA.out 2 (.slice none 0 0) rfl
      have fd := fun i => frozenRow HBA.out i
      have hUB := set3_upd (w6.alloc (.cells #[.string z.name, .string z.sort, .slice za z.kids.length zc] 25)) (w.heap.size + 1) (.string z.name) (.string z.sort) (.slice za z.kids.length zc)
      have hb2 := hUB.heap HBC.out (by omega)
      have r0 := cellRow hb2 0 (.int .i64 0) rfl
      have r1 := cellRow hb2 1 (.slice none 0 0) rfl
      have fr := fun i => frozenRow hb2 i
      have m2 := hUB.cell m0 (by have := HN4.out; show ¬ w4.heap.size = w.heap.size + 1; omega)
      have m3 := hUB.cell m1 (by have := HN4.out; show ¬ w4.heap.size = w.heap.size + 1; omega)
      clear hUB hb2
      go_upto_region 7 with fail
      try rw [hn6]
      clear hn6
      generalize w6.alloc (.cells #[.string z.name, .string z.sort, .slice za z.kids.length zc] 25) = w8 at *
      go_region
      all_goals
        go_wp2_with fail
        have hr1 := set3_heap HBA.out (.string z.name) (.string z.sort) (.slice za z.kids.length zc)
        have hu1 := set3_upd w8 (w.heap.size + 1) (.string z.name) (.string z.sort) (.slice za z.kids.length zc)
        have hb2 := hu1.heap HBC.out (by omega)
        clear d0 d1 d2 fd r0 r1 fr k0 k1 k2 m0 m1 m2 m3
        generalize ((w8.setCell ⟨w.heap.size + 1, 0, none⟩ (.string z.name)).setCell ⟨w.heap.size + 1, 1, none⟩ (.string z.sort)).setCell ⟨w.heap.size + 1, 2, none⟩ (.slice za z.kids.length zc) = wB at *
        have hr2 : ((wB.setCell ⟨w.heap.size + 2, 0, none⟩ (.int .i64 (i : Int))).setCell ⟨w.heap.size + 2, 1, none⟩ (.slice pa p.length pc)).heap[w.heap.size + 2]? = some (.cells #[.int .i64 (i : Int), .slice pa p.length pc] 71 (0, 0)) := by simpa using setBlock (setBlock hb2 0 (.int .i64 (i : Int))) 1 (.slice pa p.length pc)
        have hu2 : Upd (fun j => j = w.heap.size + 2) wB ((wB.setCell ⟨w.heap.size + 2, 0, none⟩ (.int .i64 (i : Int))).setCell ⟨w.heap.size + 2, 1, none⟩ (.slice pa p.length pc)) := ((Upd.refl (fun j => j = w.heap.size + 2) wB).setCell (p := ⟨w.heap.size + 2, 0, none⟩) (.inl rfl) _).setCell (p := ⟨w.heap.size + 2, 1, none⟩) (.inl rfl) _
        have hr3 := hu2.heap hr1 (by omega)
        have hu : Upd (fun j => j = w.heap.size + 1 ∨ j = w.heap.size + 2) w8 _ := (hu1.mono (fun _ _ h => .inl h)).trans (hu2.mono (fun _ _ h => .inr h))
        replace hu := hu.drew
        have e0 := cellRow hr3 0 _ rfl
        have e1 := cellRow hr3 1 _ rfl
        have e2 := cellRow hr3 2 _ rfl
        have e3 := cellRow hr2 0 _ rfl
        have e4 := cellRow hr2 1 _ rfl
        refine bodyPost_ret (v := .tuple #[.agg #[.string z.name, .string z.sort, .slice za z.kids.length zc], .agg #[.int .i64 (i : Int), .slice pa p.length pc], .int .i64 0]) (by simp [results, Tryz.results70, go_sem, e0, e1, e2, e3, e4]) rfl ?_
        exact ⟨StepP.mk (.slice za z.kids.length zc) (.slice pa p.length pc) (by rw [HFZ.out]) (by rw [HFZ.out]; exact (HTZ.out.kept hu (fun j hj e => by have h1 := hj.1; omega)).weaken (fun k hk => ⟨by have h1 := hk.1; omega, Nat.lt_of_lt_of_le hk.2 hu.size⟩)) (by rw [HFZ.out]; exact SlR.weaken (SlR.kept HPA9.out.1 hu (fun j hj e => by have h1 := (HPA9.out.2 j hj).1; omega)) (fun k hk => ⟨by have h1 := (HPA9.out.2 k hk).1; omega, Nat.lt_of_lt_of_le (HPA9.out.2 k hk).2 hu.size⟩)), H9.out.trans' hu (fun j hj e => by omega)⟩
    · have HFZ : Hid (F = (nulT, (0, []), 4)) := Lib.hid (by rw [HFN.out, if_neg (by decide)])
      have HBA := Lib.hid HBA9.out
      have HBC := Lib.hid HBC9.out
      clear HFN HBA9 HBC9 H69 H79
      have d0 := cellRow HBA.out 0 (.string ⟨#[]⟩) rfl
      have d1 := cellRow HBA.out 1 (.string ⟨#[]⟩) rfl
      have d2 := cellRow HBA.out 2 (.slice none 0 0) rfl
      have fd := fun i => frozenRow HBA.out i
      have hUB := set3_upd (w6.alloc (.cells #[.string z.name, .string z.sort, .slice za z.kids.length zc] 25)) (w.heap.size + 1) (.string ⟨#[]⟩) (.string ⟨#[]⟩) (.slice none 0 0)
      have hb2 := hUB.heap HBC.out (by omega)
      have r0 := cellRow hb2 0 (.int .i64 0) rfl
      have r1 := cellRow hb2 1 (.slice none 0 0) rfl
      have fr := fun i => frozenRow hb2 i
      clear hUB hb2
      go_wp2_with fail
      clear hn6
      generalize w6.alloc (.cells #[.string z.name, .string z.sort, .slice za z.kids.length zc] 25) = w8 at *
      have hr1 := set3_heap HBA.out (.string ⟨#[]⟩) (.string ⟨#[]⟩) (.slice none 0 0)
      have hu1 := set3_upd w8 (w.heap.size + 1) (.string ⟨#[]⟩) (.string ⟨#[]⟩) (.slice none 0 0)
      have hb2 := hu1.heap HBC.out (by omega)
      clear d0 d1 d2 fd r0 r1 fr 
      generalize ((w8.setCell ⟨w.heap.size + 1, 0, none⟩ (.string ⟨#[]⟩)).setCell ⟨w.heap.size + 1, 1, none⟩ (.string ⟨#[]⟩)).setCell ⟨w.heap.size + 1, 2, none⟩ (.slice none 0 0) = wB at *
      have hr2 : ((wB.setCell ⟨w.heap.size + 2, 0, none⟩ (.int .i64 0)).setCell ⟨w.heap.size + 2, 1, none⟩ (.slice none 0 0)).heap[w.heap.size + 2]? = some (.cells #[.int .i64 0, .slice none 0 0] 71 (0, 0)) := by simpa using setBlock (setBlock hb2 0 (.int .i64 0)) 1 (.slice none 0 0)
      have hu2 : Upd (fun j => j = w.heap.size + 2) wB ((wB.setCell ⟨w.heap.size + 2, 0, none⟩ (.int .i64 0)).setCell ⟨w.heap.size + 2, 1, none⟩ (.slice none 0 0)) := ((Upd.refl (fun j => j = w.heap.size + 2) wB).setCell (p := ⟨w.heap.size + 2, 0, none⟩) (.inl rfl) _).setCell (p := ⟨w.heap.size + 2, 1, none⟩) (.inl rfl) _
      have hr3 := hu2.heap hr1 (by omega)
      have hu : Upd (fun j => j = w.heap.size + 1 ∨ j = w.heap.size + 2) w8 _ := (hu1.mono (fun _ _ h => .inl h)).trans (hu2.mono (fun _ _ h => .inr h))
      have e0 := cellRow hr3 0 _ rfl
      have e1 := cellRow hr3 1 _ rfl
      have e2 := cellRow hr3 2 _ rfl
      have e3 := cellRow hr2 0 _ rfl
      have e4 := cellRow hr2 1 _ rfl
      refine bodyPost_ret (v := .tuple #[.agg #[.string ⟨#[]⟩, .string ⟨#[]⟩, .slice none 0 0], .agg #[.int .i64 0, .slice none 0 0], .int .i64 4]) (by simp [results, Tryz.results70, go_sem, e0, e1, e2, e3, e4]) rfl ?_
      exact ⟨StepP.zero HFZ.out rfl, H9.out.trans' hu (fun j hj e => by omega)⟩
/-- what Step answers -/
def stepG (l : List Rl) (t : Tm) : Tm × (Nat × List Nat) × Int := if (rightF l && wf nmB t) = true then stepF l t else (nulT, (0, []), 1)
set_option maxRecDepth 100000 in
set_option maxHeartbeats 2000000 in
theorem Step_x (l : List Rl) (t : Tm) (lv v : Value) (w : World) (hL : RuR (fun k => k < w.heap.size) w l lv) (hT : TmR (fun k => k < w.heap.size) w t v) (htab : AscT w) (hll : l.length ≤ 1000000) (hls : ∀ r ∈ l, r.1.size ≤ 300 ∧ r.2.size ≤ 300) (hsz : t.size ≤ 300) :
    Calls Tryz.prog 34 #[lv, v] w fun e w' => StepP w.heap.size (stepG l t) e w' ∧ Ext w w' := by
  have HRT := Lib.hid (fun W (hW : Ext w W) => right_x l lv W ((hL.ext hW).weaken (fun k hk => Nat.lt_of_lt_of_le hk hW.size)) (asc_ext htab hW) hll (fun r hr => ⟨by have := (hls r hr).1; omega, by have := (hls r hr).2; omega⟩))
  have HFM := Lib.hid (fun W (hW : Ext w W) => rform_x t v W (asc_ext htab hW) ((hT.ext hW).weaken (fun k hk => Nat.lt_of_lt_of_le hk hW.size)) (by omega))
  have HST := Lib.hid (fun W (hW : Ext w W) => step_x l t lv v W ((hL.ext hW).weaken (fun k hk => Nat.lt_of_lt_of_le hk hW.size)) ((hT.ext hW).weaken (fun k hk => Nat.lt_of_lt_of_le hk hW.size)) (asc_ext htab hW) hll hls hsz)
  obtain ⟨a, cap, rfl, hT⟩ := hT
  obtain ⟨la, lc, rfl⟩ := hL.shape
  have HE0 := Lib.hid ((((Upd.refl (fun _ => False) w).alloc (.cells #[.string t.name, .string t.sort, .slice a t.kids.length cap] 25)).alloc (.cells #[.string ⟨#[]⟩, .string ⟨#[]⟩, .slice none 0 0] 25)).alloc (.cells #[.int .i64 0, .slice none 0 0] 71))
  have HB0 := Lib.hid (allocOld (allocOld (alloc0 w (.cells #[.string t.name, .string t.sort, .slice a t.kids.length cap] 25)) (.cells #[.string ⟨#[]⟩, .string ⟨#[]⟩, .slice none 0 0] 25)) (.cells #[.int .i64 0, .slice none 0 0] 71))
  have HBA0 := Lib.hid (allocOld (alloc_at (w.alloc (.cells #[.string t.name, .string t.sort, .slice a t.kids.length cap] 25)) (.cells #[.string ⟨#[]⟩, .string ⟨#[]⟩, .slice none 0 0] 25) (n := w.heap.size + 1) (by simp)) (.cells #[.int .i64 0, .slice none 0 0] 71))
  have HBC0 := Lib.hid (alloc_at ((w.alloc (.cells #[.string t.name, .string t.sort, .slice a t.kids.length cap] 25)).alloc (.cells #[.string ⟨#[]⟩, .string ⟨#[]⟩, .slice none 0 0] 25)) (.cells #[.int .i64 0, .slice none 0 0] 71) (n := w.heap.size + 2) (by simp))
  have hz0 : (((w.alloc (.cells #[.string t.name, .string t.sort, .slice a t.kids.length cap] 25)).alloc (.cells #[.string ⟨#[]⟩, .string ⟨#[]⟩, .slice none 0 0] 25)).alloc (.cells #[.int .i64 0, .slice none 0 0] 71)).heap.size = w.heap.size + 3 := by simp
  have HZ0 := Lib.hid hz0
  dsimp only [tV] at HFM HST ⊢
  obtain ⟨A, hA⟩ : ∃ b, rightF l = b := ⟨_, rfl⟩
  obtain ⟨B, hB⟩ : ∃ b, wf nmB t = b := ⟨_, rfl⟩
  obtain ⟨F, hF⟩ : ∃ F, stepF l t = F := ⟨_, rfl⟩
  have HFG : Hid (stepG l t = if (A && B) = true then F else (nulT, (0, []), 1)) := Lib.hid (by unfold stepG; rw [hA, hB, hF])
  rw [hA] at HRT
  rw [hB] at HFM
  rw [hF] at HST
  obtain ⟨G, hG⟩ : ∃ G, stepG l t = G := ⟨_, rfl⟩
  rw [hG] at HFG ⊢
  clear hL hT htab hll hls hsz hz0 hA hB hF hG
  go_enter Tryz.func34, Tryz.ntmps34
  go_wp2_with fail
  refine (HRT.out _ HE0.out).mono ?_
  rintro e w4 ⟨rfl, hw4⟩
  have H4 := Lib.hid (HE0.out.trans hw4)
  have HB4 := Lib.hid (hw4.heap HB0.out (fun h => h))
  have HBA4 := Lib.hid (hw4.heap HBA0.out (fun h => h))
  have HBC4 := Lib.hid (hw4.heap HBC0.out (fun h => h))
  have hs4 : w.heap.size + 3 ≤ w4.heap.size := by rw [← HZ0.out]; exact hw4.size
  have HS4 := Lib.hid hs4
  clear hw4 hs4 HRT HB0 HBA0 HBC0
  cases A
  · have HFN : Hid (G = (nulT, (0, []), 1)) := Lib.hid (by rw [HFG.out]; rfl)
    have HBA := Lib.hid HBA4.out
    have HBC := Lib.hid HBC4.out
    clear HFG HBA4 HBC4 HFM HST
    have d0 := cellRow HBA.out 0 (.string ⟨#[]⟩) rfl
    have d1 := cellRow HBA.out 1 (.string ⟨#[]⟩) rfl
    have d2 := cellRow HBA.out 2 (.slice none 0 0) rfl
    have fd := fun i => frozenRow HBA.out i
    have hUB := set3_upd w4 (w.heap.size + 1) (.string ⟨#[]⟩) (.string ⟨#[]⟩) (.slice none 0 0)
    have hb2 := hUB.heap HBC.out (by omega)
    have r0 := cellRow hb2 0 (.int .i64 0) rfl
    have r1 := cellRow hb2 1 (.slice none 0 0) rfl
    have fr := fun i => frozenRow hb2 i
    clear hUB hb2
    go_wp2_with fail
    all_goals
      have HHH := HFN.out
      have hr1 := set3_heap HBA.out (.string ⟨#[]⟩) (.string ⟨#[]⟩) (.slice none 0 0)
      have hu1 := set3_upd w4 (w.heap.size + 1) (.string ⟨#[]⟩) (.string ⟨#[]⟩) (.slice none 0 0)
      have hb2 := hu1.heap HBC.out (by omega)
      clear d0 d1 d2 fd r0 r1 fr 
      generalize ((w4.setCell ⟨w.heap.size + 1, 0, none⟩ (.string ⟨#[]⟩)).setCell ⟨w.heap.size + 1, 1, none⟩ (.string ⟨#[]⟩)).setCell ⟨w.heap.size + 1, 2, none⟩ (.slice none 0 0) = wB at *
      have hr2 : ((wB.setCell ⟨w.heap.size + 2, 0, none⟩ (.int .i64 0)).setCell ⟨w.heap.size + 2, 1, none⟩ (.slice none 0 0)).heap[w.heap.size + 2]? = some (.cells #[.int .i64 0, .slice none 0 0] 71 (0, 0)) := by simpa using setBlock (setBlock hb2 0 (.int .i64 0)) 1 (.slice none 0 0)
      have hu2 : Upd (fun j => j = w.heap.size + 2) wB ((wB.setCell ⟨w.heap.size + 2, 0, none⟩ (.int .i64 0)).setCell ⟨w.heap.size + 2, 1, none⟩ (.slice none 0 0)) := ((Upd.refl (fun j => j = w.heap.size + 2) wB).setCell (p := ⟨w.heap.size + 2, 0, none⟩) (.inl rfl) _).setCell (p := ⟨w.heap.size + 2, 1, none⟩) (.inl rfl) _
      have hr3 := hu2.heap hr1 (by omega)
      have hu : Upd (fun j => j = w.heap.size + 1 ∨ j = w.heap.size + 2) w4 _ := (hu1.mono (fun _ _ h => .inl h)).trans (hu2.mono (fun _ _ h => .inr h))
      have e0 := cellRow hr3 0 _ rfl
      have e1 := cellRow hr3 1 _ rfl
      have e2 := cellRow hr3 2 _ rfl
      have e3 := cellRow hr2 0 _ rfl
      have e4 := cellRow hr2 1 _ rfl
      refine bodyPost_ret (v := .tuple #[.agg #[.string ⟨#[]⟩, .string ⟨#[]⟩, .slice none 0 0], .agg #[.int .i64 0, .slice none 0 0], .int .i64 1]) (by simp [results, Tryz.results34, go_sem, e0, e1, e2, e3, e4]) rfl ?_
      exact ⟨StepP.zero HHH rfl, H4.out.trans' hu (fun j hj e => by omega)⟩
  · have c0 := cellRow HB4.out 0 (.string t.name) rfl
    have c1 := cellRow HB4.out 1 (.string t.sort) rfl
    have c2 := cellRow HB4.out 2 (.slice a t.kids.length cap) rfl
    go_wp2_with fail
    refine (HFM.out _ H4.out).mono ?_
    rintro e w5 ⟨rfl, hw5⟩
    have H5 := Lib.hid (H4.out.trans hw5)
    have HB5 := Lib.hid (hw5.heap HB4.out (fun h => h))
    have HBA := Lib.hid (hw5.heap HBA4.out (fun h => h))
    have HBC := Lib.hid (hw5.heap HBC4.out (fun h => h))
    have HS5 : Hid (w.heap.size + 3 ≤ w5.heap.size) := Lib.hid (Nat.le_trans HS4.out hw5.size)
    clear hw5 c0 c1 c2 HFM HBA4 HBC4 HB4 HS4
    cases B
    · have HFN : Hid (G = (nulT, (0, []), 1)) := Lib.hid (by rw [HFG.out]; rfl)
      clear HFG HST
      have d0 := cellRow HBA.out 0 (.string ⟨#[]⟩) rfl
      have d1 := cellRow HBA.out 1 (.string ⟨#[]⟩) rfl
      have d2 := cellRow HBA.out 2 (.slice none 0 0) rfl
      have fd := fun i => frozenRow HBA.out i
      have hUB := set3_upd w5 (w.heap.size + 1) (.string ⟨#[]⟩) (.string ⟨#[]⟩) (.slice none 0 0)
      have hb2 := hUB.heap HBC.out (by omega)
      have r0 := cellRow hb2 0 (.int .i64 0) rfl
      have r1 := cellRow hb2 1 (.slice none 0 0) rfl
      have fr := fun i => frozenRow hb2 i
      clear hUB hb2
      go_wp2_with fail
      all_goals
        have HHH := HFN.out
        have hr1 := set3_heap HBA.out (.string ⟨#[]⟩) (.string ⟨#[]⟩) (.slice none 0 0)
        have hu1 := set3_upd w5 (w.heap.size + 1) (.string ⟨#[]⟩) (.string ⟨#[]⟩) (.slice none 0 0)
        have hb2 := hu1.heap HBC.out (by omega)
        clear d0 d1 d2 fd r0 r1 fr 
        generalize ((w5.setCell ⟨w.heap.size + 1, 0, none⟩ (.string ⟨#[]⟩)).setCell ⟨w.heap.size + 1, 1, none⟩ (.string ⟨#[]⟩)).setCell ⟨w.heap.size + 1, 2, none⟩ (.slice none 0 0) = wB at *
        have hr2 : ((wB.setCell ⟨w.heap.size + 2, 0, none⟩ (.int .i64 0)).setCell ⟨w.heap.size + 2, 1, none⟩ (.slice none 0 0)).heap[w.heap.size + 2]? = some (.cells #[.int .i64 0, .slice none 0 0] 71 (0, 0)) := by simpa using setBlock (setBlock hb2 0 (.int .i64 0)) 1 (.slice none 0 0)
        have hu2 : Upd (fun j => j = w.heap.size + 2) wB ((wB.setCell ⟨w.heap.size + 2, 0, none⟩ (.int .i64 0)).setCell ⟨w.heap.size + 2, 1, none⟩ (.slice none 0 0)) := ((Upd.refl (fun j => j = w.heap.size + 2) wB).setCell (p := ⟨w.heap.size + 2, 0, none⟩) (.inl rfl) _).setCell (p := ⟨w.heap.size + 2, 1, none⟩) (.inl rfl) _
        have hr3 := hu2.heap hr1 (by omega)
        have hu : Upd (fun j => j = w.heap.size + 1 ∨ j = w.heap.size + 2) w5 _ := (hu1.mono (fun _ _ h => .inl h)).trans (hu2.mono (fun _ _ h => .inr h))
        have e0 := cellRow hr3 0 _ rfl
        have e1 := cellRow hr3 1 _ rfl
        have e2 := cellRow hr3 2 _ rfl
        have e3 := cellRow hr2 0 _ rfl
        have e4 := cellRow hr2 1 _ rfl
        refine bodyPost_ret (v := .tuple #[.agg #[.string ⟨#[]⟩, .string ⟨#[]⟩, .slice none 0 0], .agg #[.int .i64 0, .slice none 0 0], .int .i64 1]) (by simp [results, Tryz.results34, go_sem, e0, e1, e2, e3, e4]) rfl ?_
        exact ⟨StepP.zero HHH rfl, H5.out.trans' hu (fun j hj e => by omega)⟩
    · have HFN : Hid (G = F) := Lib.hid (by rw [HFG.out]; rfl)
      have c0 := cellRow HB5.out 0 (.string t.name) rfl
      have c1 := cellRow HB5.out 1 (.string t.sort) rfl
      have c2 := cellRow HB5.out 2 (.slice a t.kids.length cap) rfl
      clear HFG
      go_wp2_with fail
      refine (HST.out _ H5.out).mono ?_
      rintro e w6 ⟨⟨r, pv, rfl, hTl, hPl⟩, hw6⟩
      obtain ⟨ra, rc, hr⟩ := hTl.shape
      subst hr
      obtain ⟨pa, pc, hp⟩ := SlR.shape hPl
      subst hp
      have H6 := Lib.hid (H5.out.trans hw6)
      have HBA6 := Lib.hid (hw6.heap HBA.out (fun h => h))
      have HBC6 := Lib.hid (hw6.heap HBC.out (fun h => h))
      have HTL := Lib.hid (And.intro hTl hPl)
      have HSW : Hid (w.heap.size + 3 ≤ w5.heap.size) := Lib.hid HS5.out
      clear hTl hPl hw6 HST HBA HBC c0 c1 c2 HB5
      have HBA := Lib.hid HBA6.out
      have HBC := Lib.hid HBC6.out
      clear HBA6 HBC6
      dsimp only [tV]
      have d0 := cellRow HBA.out 0 (.string ⟨#[]⟩) rfl
      have d1 := cellRow HBA.out 1 (.string ⟨#[]⟩) rfl
      have d2 := cellRow HBA.out 2 (.slice none 0 0) rfl
      have fd := fun i => frozenRow HBA.out i
      have hUB := set3_upd w6 (w.heap.size + 1) (.string F.1.name) (.string F.1.sort) (.slice ra F.1.kids.length rc)
      have hb2 := hUB.heap HBC.out (by omega)
      have r0 := cellRow hb2 0 (.int .i64 0) rfl
      have r1 := cellRow hb2 1 (.slice none 0 0) rfl
      have fr := fun i => frozenRow hb2 i
      clear hUB hb2
      go_wp2_with fail
      have hr1 := set3_heap HBA.out (.string F.1.name) (.string F.1.sort) (.slice ra F.1.kids.length rc)
      have hu1 := set3_upd w6 (w.heap.size + 1) (.string F.1.name) (.string F.1.sort) (.slice ra F.1.kids.length rc)
      have hb2 := hu1.heap HBC.out (by omega)
      clear d0 d1 d2 fd r0 r1 fr 
      generalize ((w6.setCell ⟨w.heap.size + 1, 0, none⟩ (.string F.1.name)).setCell ⟨w.heap.size + 1, 1, none⟩ (.string F.1.sort)).setCell ⟨w.heap.size + 1, 2, none⟩ (.slice ra F.1.kids.length rc) = wB at *
      have hr2 : ((wB.setCell ⟨w.heap.size + 2, 0, none⟩ (.int .i64 (F.2.1.1 : Int))).setCell ⟨w.heap.size + 2, 1, none⟩ (.slice pa F.2.1.2.length pc)).heap[w.heap.size + 2]? = some (.cells #[.int .i64 (F.2.1.1 : Int), .slice pa F.2.1.2.length pc] 71 (0, 0)) := by simpa using setBlock (setBlock hb2 0 (.int .i64 (F.2.1.1 : Int))) 1 (.slice pa F.2.1.2.length pc)
      have hu2 : Upd (fun j => j = w.heap.size + 2) wB ((wB.setCell ⟨w.heap.size + 2, 0, none⟩ (.int .i64 (F.2.1.1 : Int))).setCell ⟨w.heap.size + 2, 1, none⟩ (.slice pa F.2.1.2.length pc)) := ((Upd.refl (fun j => j = w.heap.size + 2) wB).setCell (p := ⟨w.heap.size + 2, 0, none⟩) (.inl rfl) _).setCell (p := ⟨w.heap.size + 2, 1, none⟩) (.inl rfl) _
      have hr3 := hu2.heap hr1 (by omega)
      have hu : Upd (fun j => j = w.heap.size + 1 ∨ j = w.heap.size + 2) w6 _ := (hu1.mono (fun _ _ h => .inl h)).trans (hu2.mono (fun _ _ h => .inr h))
      have e0 := cellRow hr3 0 _ rfl
      have e1 := cellRow hr3 1 _ rfl
      have e2 := cellRow hr3 2 _ rfl
      have e3 := cellRow hr2 0 _ rfl
      have e4 := cellRow hr2 1 _ rfl
      refine bodyPost_ret (v := .tuple #[.agg #[.string F.1.name, .string F.1.sort, .slice ra F.1.kids.length rc], .agg #[.int .i64 (F.2.1.1 : Int), .slice pa F.2.1.2.length pc], .int .i64 F.2.2]) (by simp [results, Tryz.results34, go_sem, e0, e1, e2, e3, e4]) rfl ?_
      rw [HFN.out]
      exact ⟨StepP.mk (.slice ra F.1.kids.length rc) (.slice pa F.2.1.2.length pc) rfl ((HTL.out.1.kept hu (fun j hj e => by have h1 := hj.1; have h2 := HSW.out; omega)).weaken (fun k hk => ⟨by have h1 := hk.1; have h2 := HSW.out; omega, Nat.lt_of_lt_of_le hk.2 hu.size⟩)) (SlR.weaken (SlR.kept HTL.out.2 hu (fun j hj e => by have h1 := hj.1; have h2 := HSW.out; omega)) (fun k hk => ⟨by have h1 := hk.1; have h2 := HSW.out; omega, Nat.lt_of_lt_of_le hk.2 hu.size⟩)), H6.out.trans' hu (fun j hj e => by omega)⟩

end Go.Proofs.YtiimccogojkldaaGreatDoor

/- Decreasing of the program. -/
namespace Go.Proofs.YtiimccogojkldaaGreatDoor
open Go.RowKit Go.Hw Go
set_option linter.unusedVariables false
set_option linter.unusedSimpArgs false

open Tm
def decF (ops : List By) (L : List Rl) : Bool × Int × Int :=
  if precP nmB ops = false ∨ (flR L).all (wf nmB) = false then (false, 0, 1) else if 100 < L.length then (false, 0, 4) else
    if (flR L).all (knowsP ops) = false then (false, 0, 9) else (decide (firstI ops L < 0), firstI ops L, 0)
set_option maxRecDepth 100000 in
set_option maxHeartbeats 2000000 in
theorem decr_x (ops : List By) (L : List Rl) (ov lv : Value) (w : World) (hO : StR (fun k => k < w.heap.size) w ov ops) (hR : RuR (fun k => k < w.heap.size) w L lv) (htab : AscT w) (hpow : Lib.TabIs Tryz.prog w "internal/strconv.uint64pow10" .u64 Lib.pow10Tab) (hol : ops.length ≤ 1000000) (hl : L.length ≤ 100000) (hsz : sizes (flR L) ≤ 100000) :
    Calls Tryz.prog 16 #[ov, lv] w fun e w' => e = .returned (.tuple #[.bool (decF ops L).1, .int .i64 (decF ops L).2.1, .int .i64 (decF ops L).2.2]) ∧ Ext w w' := by
  have HSD := Lib.hid (sides_x L lv _ w hR (fun k h => h) hl)
  have HPR := Lib.hid (fun W (hW : Ext w W) => prec_x ops ov _ W (SlR.kept hO hW (fun _ _ h => h)) (asc_ext htab hW) hol)
  have HNO := Lib.hid (fun (hp : precP nmB ops = true) W (hW : Ext w W) => newO_x ops ov (fun k => k < w.heap.size) w.heap.size W (SlR.kept hO hW (fun _ _ h => h)) (fun k hk => Nat.lt_of_lt_of_le hk hW.size) ((precP_iff _ _).1 hp).2.2 hW.size hol)
  have HFI := Lib.hid (fun (hok : ∀ t ∈ flR L, ∀ x ∈ sbts t, OkN ops x) W bb B (hW : Ext w W) (ho : OrdR 144 114 ops (fun _ => False) B w.heap.size W bb []) => first_x ops w.heap.size bb L lv B (fun k => k < w.heap.size) W ho (hR.ext hW) (fun k hk => hk) hW.size (by omega) hsz hok
    (fun W2 h2 => pow_upd hpow ((hW.mono (G := fun j => w.heap.size ≤ j) (fun _ _ x => x.elim)).trans h2) (fun k hk h => by omega)))
  have HTS : Hid (∀ t ∈ flR L, t.size ≤ 100000) := Lib.hid (fun t ht => by
    have := mem_sizes ht
    omega)
  have HKN := Lib.hid (fun W (hW : Ext w W) tv (ht : TlR (fun k => k < W.heap.size) W (flR L) tv) => know_x ops (flR L) ov tv _ W (SlR.weaken (SlR.kept hO hW (fun _ _ h => h)) (fun k hk => Nat.lt_of_lt_of_le hk hW.size)) ht (fun k hk => hk) hol (by rw [flR_len]; omega) HTS.out)
  have HFO := Lib.hid (fun W (hW : Ext w W) tv (ht : TlR (fun k => k < W.heap.size) W (flR L) tv) => forms_x (flR L) tv W (asc_ext htab hW) ht (by rw [flR_len]; omega) (fun t ht => by have := HTS.out t ht; omega))
  obtain ⟨oa, oc, rfl⟩ := SlR.shape hO
  obtain ⟨la, lc, rfl⟩ := hR.shape
  clear hR hO hsz htab hpow
  go_enter Tryz.func16, Tryz.ntmps16
  go_wp2_with fail
  refine HSD.out.mono ?_
  rintro e w4 ⟨r4, rfl, hr4, hw4⟩
  have H4 := Lib.hid hw4
  have HT4 := Lib.hid hr4
  obtain ⟨ta, tc, htv⟩ := hr4.shape
  subst htv
  clear hr4 hw4 HSD
  obtain ⟨P, hP⟩ : ∃ x, precP nmB ops = x := ⟨_, rfl⟩
  have HP := Lib.hid hP
  rw [hP] at HPR
  have HFO4 := Lib.hid (fun W (hW : Ext w W) (hX : Ext w4 W) => HFO.out W hW _ ((HT4.out.ext hX).weaken (fun k hk => Nat.lt_of_lt_of_le hk hX.size)))
  have HKN4 := Lib.hid (fun W (hW : Ext w W) (hX : Ext w4 W) => HKN.out W hW _ ((HT4.out.ext hX).weaken (fun k hk => Nat.lt_of_lt_of_le hk hX.size)))
  clear HFO HKN HT4 hP
  have HV0 : Hid (P = false → decF ops L = (false, 0, 1)) := Lib.hid (fun h => by unfold decF; rw [if_pos (.inl (by rw [HP.out, h]))])
  cases P
  · have HV := Lib.hid (HV0.out rfl)
    clear HV0
    go_wp2_with fail
    refine (HPR.out _ H4.out).mono ?_
    rintro e w5 ⟨rfl, hw5⟩
    have H5 := Lib.hid (H4.out.trans hw5)
    clear hw5 HPR
    go_wp2_with fail
    go_ret3
    rw [HV.out]
    exact ⟨rfl, H5.out⟩
  clear HV0
  have HNO1 := Lib.hid (HNO.out HP.out)
  clear HNO
  go_wp2_with fail
  refine (HPR.out _ H4.out).mono ?_
  rintro e w5 ⟨rfl, hw5⟩
  have H5 := Lib.hid (H4.out.trans hw5)
  have HX5 := Lib.hid hw5
  have HFO5 := Lib.hid (HFO4.out _ H5.out HX5.out)
  clear hw5 HPR HFO4
  obtain ⟨Fm, hF⟩ : ∃ x, (flR L).all (wf nmB) = x := ⟨_, rfl⟩
  have HF := Lib.hid hF
  rw [hF] at HFO5
  clear hF
  have HV0 : Hid (Fm = false → decF ops L = (false, 0, 1)) := Lib.hid (fun h => by unfold decF; rw [if_pos (.inr (by rw [HF.out, h]))])
  cases Fm
  · have HV := Lib.hid (HV0.out rfl)
    clear HV0
    go_wp2_with fail
    refine HFO5.out.mono ?_
    rintro e w6 ⟨rfl, hw6⟩
    have H6 := Lib.hid (H5.out.trans hw6)
    clear hw6 HFO5
    go_wp2_with fail
    go_ret3
    rw [HV.out]
    exact ⟨rfl, H6.out⟩
  clear HV0
  go_wp2_with fail
  refine HFO5.out.mono ?_
  rintro e w6 ⟨rfl, hw6⟩
  have H6 := Lib.hid (H5.out.trans hw6)
  have HX6 := Lib.hid (HX5.out.trans hw6)
  clear hw6 HFO5 HX5
  have HN1 : Hid (¬ (precP nmB ops = false ∨ (flR L).all (wf nmB) = false)) := Lib.hid (by rw [HP.out, HF.out]; simp)
  by_cases hc : 100 < L.length
  · have HV : Hid (decF ops L = (false, 0, 4)) := Lib.hid (by unfold decF; rw [if_neg HN1.out, if_pos hc])
    have z1 : (100 : Int) < (L.length : Int) := by omega
    go_wp2_with fail
    go_ret3
    rw [HV.out]
    exact ⟨rfl, H6.out⟩
  have HC := Lib.hid hc
  have z1 : ¬ (100 : Int) < (L.length : Int) := by omega
  clear hc
  obtain ⟨K, hK⟩ : ∃ x, (flR L).all (knowsP ops) = x := ⟨_, rfl⟩
  have HK := Lib.hid hK
  have HKN6 := Lib.hid (HKN4.out _ H6.out HX6.out)
  rw [hK] at HKN6
  clear hK HKN4
  have HV0 : Hid (K = false → decF ops L = (false, 0, 9)) := Lib.hid (fun h => by unfold decF; rw [if_neg HN1.out, if_neg HC.out, if_pos (by rw [HK.out, h])])
  cases K
  · have HV := Lib.hid (HV0.out rfl)
    clear HV0
    go_wp2_with fail
    refine HKN6.out.mono ?_
    rintro e w7 ⟨rfl, hw7⟩
    have H7 := Lib.hid (H6.out.trans hw7)
    clear hw7 HKN6
    go_wp2_with fail
    go_ret3
    rw [HV.out]
    exact ⟨rfl, H7.out⟩
  clear HV0
  have HFI1 := Lib.hid (HFI.out (fun t ht x hx => wf_ok (List.all_eq_true.1 HF.out t ht) (List.all_eq_true.1 HK.out t ht) x hx))
  have HV : Hid (decF ops L = (decide (firstI ops L < 0), firstI ops L, 0)) := Lib.hid (by unfold decF; rw [if_neg HN1.out, if_neg HC.out, if_neg (by rw [HK.out]; simp)])
  clear HFI
  generalize firstI ops L = X at *
  go_wp2_with fail
  refine HKN6.out.mono ?_
  rintro e w7 ⟨rfl, hw7⟩
  have H7 := Lib.hid (H6.out.trans hw7)
  clear hw7 HKN6 z1
  go_wp2_with fail
  refine (HNO1.out _ H7.out).mono ?_
  rintro e w8 ⟨bb, B, rfl, ho8, hw8, hb8⟩
  have HF8 := Lib.hid (HFI1.out w8 bb B (H7.out.trans hw8) ho8)
  have HE8 := Lib.hid (And.intro (H7.out.trans hw8) (fun j hj => Nat.le_trans H7.out.size (hb8 j hj)))
  clear ho8 hw8 hb8 HNO1 HFI1
  go_wp2_with fail
  refine HF8.out.mono ?_
  rintro e w9 ⟨rfl, hu9⟩
  have H9 : Hid (Ext w w9) := Lib.hid (HE8.out.1.trans' hu9 (fun j hj h => by have := HE8.out.2 j h; omega))
  clear hu9
  go_wp2_with fail
  go_ret3
  rw [HV.out]
  exact ⟨rfl, H9.out⟩

end Go.Proofs.YtiimccogojkldaaGreatDoor
