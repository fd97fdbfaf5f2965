/- The texts I1 Shelf, one behind the other. -/
import Derived.RangeFuncNested
import Derived.RangeFuncBound
import Derived.RangeFuncCalls
import Derived.RangeFuncLeaves
import Derived.Shelf.Abstract
import Derived.Shelf.RegionOpen
import Derived.WalkKit
import Derived.OwnWalkIn
import Derived.TacticsInMore
import Derived.LoopNIn
import Derived.LoopIn
import Derived.Sort.LoopGhostIn
import Derived.Laws.EntriesVeiled
import Derived.Test.YtjjaknmnhhfjeaaGreatDoorKAC
import Derived.Test.YtjjaknmnhhfjeaaGreatDoorKAB
import Derived.Test.YtjjaknmnhhfjeaaGreatDoorProg
import Derived.Shelf.Strings.Builder1
import Derived.Shelf.Strings.Builder2
import Derived.Shelf.Strings.OnBuilder
import Derived.Shelf.Small.Bits
import Derived.Shelf.Small.Strs
import Derived.Shelf.Strconv.Itoa0
import Derived.Shelf.Strings.Search1
import Derived.Shelf.Strings.Prefix
import Derived.Shelf.Strings.Fields
import Derived.Shelf.Slices.Turned
import Derived.Shelf.Slices.Equal
import Derived.Shelf.Slices.Empties2
import Derived.Ground.Names2Prog
import Derived.Shelf.Spec.SearchS
/- The nodes of a term, one after the other. -/
namespace Go.Proofs.YtjjaknmnhhfjeaaGreatDoor
open Go.RowKit Go.Hw Go
set_option linter.unusedVariables false
set_option linter.unusedSimpArgs false

open Go.Shelf Tm
attribute [local go_sem] Oper.semAt_some
theorem room_of_none {F : Fence} (hd : F.depth = none) (k : Nat) : F.room k := fun d h => by rw [hd] at h; cases h
theorem RoundIn.anyDepth {F : Fence} (hd : F.depth = none) {m m' : Nat} {P : Program} {l : Nat} {f : FuncId} {tmps : Array Value} {assign body : Code} {w : World} {R : Ending → World → Prop}
    (h : RoundIn F m P l f tmps assign body w R) : RoundIn F m' P l f tmps assign body w R := ⟨h.1, fun c cs _ => h.2 c cs (room_of_none hd _)⟩
theorem YieldAt.anyDepth {F : Fence} (hd : F.depth = none) {m : Nat} (m' : Nat) {P : Program} {l : Nat} {args : Array Value} {W : World} {R : Ending → World → Prop} (h : YieldAt F m P l args W R) : YieldAt F m' P l args W R := by
  obtain ⟨fn, tmps, assign, body, hy, hR⟩ := h
  exact ⟨fn, tmps, assign, body, hy, RoundIn.anyDepth hd hR⟩
structure Nd where
  t : Tm
  a : Option Addr
  cap : Nat
  d : Nat
def Nd.encs (x : Nd) : Array Value := #[tV x.t (.slice x.a x.t.kids.length x.cap), .int .i64 (x.d : Int)]
def Nd.pr (x : Nd) : Tm × Nat := (x.t, x.d)
theorem abides_alloc {J : List Nd → World → Prop} {B : Nat} (h : AbidesFrom B J) {pre : List Nd} {W : World} (o : Obj) (hj : J pre W) : J pre (W.alloc o) := h pre W _ none hj (World.grownBy_alloc W o none) (fun r e => by cases e)
set_option maxRecDepth 100000 in
set_option maxHeartbeats 4000000 in
theorem visit_in (F : Fence) (hd : F.depth = none) (hf : ∀ k, F.fn k) (hro : F.round = none) (l Bv n₁ N B0 : Nat) (G S : Nat → Prop) (hS : ∀ k, S k → ¬ G k) (hBv : ¬ G Bv) (hG : ∀ k, G k → k < n₁) (J Jx : List Nd → World → Prop) (hJ : AbidesFrom B0 J)
    (hY : ∀ m pre x W, J pre W → pre.length < N → YieldAt F m Tryz.prog l x.encs W fun e W' => (e = .returned (.bool true) ∧ J (pre ++ [x]) W' ∧ KpG G W W') ∨ (e = .returned (.bool false) ∧ Jx (pre ++ [x]) W')) :
    ∀ (t : Tm) (n : Nat) (a : Option Addr) (cap d : Nat) (pre : List Nd) (W : World), TlR S W t.kids (.slice a t.kids.length cap) → W.heap[Bv]? = some (.cells #[(.func (.func 113) #[] #[.pointer (some ⟨Bv, 0, none⟩)])] 163 (0, 0)) → J pre W → n₁ ≤ W.heap.size → pre.length + t.size ≤ N → ((d + t.size : Nat) : Int) ≤ 4611686018427387904 →
      CallsIn F n Tryz.prog 113 #[tV t (.slice a t.kids.length cap), .int .i64 (d : Int), .func (.yield l) #[] #[], .pointer (some ⟨Bv, 0, none⟩)] W fun e W' =>
        (e = .returned (.bool true) ∧ ∃ xs : List Nd, xs.map Nd.pr = nodesD d t ∧ J (pre ++ xs) W' ∧ KpG G W W') ∨ (e = .returned (.bool false) ∧ ∃ q : List Nd, q.map Nd.pr <+: nodesD d t ∧ Jx (pre ++ q) W') := by
  have hdd : ∀ k : Nat, (F.depth.isSome = true → 1 ≤ k) := fun k h => by rw [hd] at h; cases h
  refine Tm.ind (fun nm so L ih => ?_)
  intro n a cap d pre W hR hV hJ0 hn1 hN hdb
  have hsz := size_eq (.mk nm so L)
  dsimp only [tV, Tm.name, Tm.sort, Tm.kids] at hR hsz ⊢
  rw [hsz] at hN hdb
  have hb := alloc0 W (.cells #[.string nm, .string so, .slice a L.length cap] 24)
  have c0 := cellRow hb 0 (.string nm) rfl
  have c1 := cellRow hb 1 (.string so) rfl
  have c2 := cellRow hb 2 (.slice a L.length cap) rfl
  have hU0 : KpG G W (W.alloc (.cells #[.string nm, .string so, .slice a L.length cap] 24)) := KpG.of_ext ((Upd.refl _ W).alloc _)
  have hGB : ¬ G W.heap.size := fun h => by have := hG _ h; omega
  obtain ⟨fn, tmps, assign, body, hy, hR1⟩ := hY (n - 1) pre ⟨.mk nm so L, a, cap, d⟩ (W.alloc (.cells #[.string nm, .string so, .slice a L.length cap] 24)) (abides_alloc hJ _ hJ0) (by omega)
  dsimp only [Nd.encs, tV, Tm.name, Tm.sort, Tm.kids] at hy
  refine callsIn_of_wp Tryz.func113 rfl (hf 113) ?_ hro
  simp only [Tryz.ntmps113, List.size_toArray, List.length_cons, List.length_nil, Nat.reduceAdd, Nat.reduceSub, Array.replicate_succ, Array.replicate_zero, List.push_toArray, List.append_toArray, List.nil_append, List.cons_append]
  gi_wp2
  refine hR1.mono ?_
  clear hR1
  rintro e W1 (⟨rfl, hJ1, hk1⟩ | ⟨rfl, hx1⟩)
  · have hb1 := hk1.cells _ _ _ _ hGB hb
    have d2 := cellRow hb1 2 (.slice a L.length cap) rfl
    gi_wp2
    gi_loopg [18] (L.length) (fun gk iv wr => ∃ (k : Nat) (xs : List Nd), iv = .int .i64 (k : Int) ∧ gk = L.length - k ∧ k ≤ L.length ∧ xs.map Nd.pr = nodesDs (d + 1) (L.take k) ∧ J (pre ++ [⟨.mk nm so L, a, cap, d⟩] ++ xs) wr ∧ KpG G W wr)
    case atStart => exact ⟨0, [], rfl, rfl, Nat.zero_le _, rfl, by simpa using hJ1, hU0.trans hk1⟩
    case round =>
      obtain ⟨k, xs, rfl, rfl, hk, hxs, hJr, hkr⟩ := hrel
      by_cases hlt : k < L.length
      · obtain ⟨g, off, rfl, _, hat⟩ := (hR.keptK hkr hS).at_ (by omega)
        obtain ⟨a', cap', q0, q1, q2, hkid⟩ := hat k hlt
        have z0 : (0 : Int) ≤ (k : Int) := by omega
        have z1 : (k : Int) < (L.length : Int) := by omega
        have z2 : decide ((k : Int) < (L.length : Int)) = true := decide_eq_true z1
        have hv := hkr.cells _ _ _ _ hBv hV
        have hmem : tg L k ∈ L := by unfold tg; rw [List.getD_eq_getElem?_getD, List.getElem?_eq_getElem hlt]; exact List.getElem_mem hlt
        have hsz2 : sizes (L.take k) + (tg L k).size ≤ sizes L := by
          have h1 : L = L.take k ++ tg L k :: L.drop (k + 1) := by
            unfold tg; rw [List.getD_eq_getElem?_getD, List.getElem?_eq_getElem hlt]; simp
          have h2 := congrArg sizes h1
          rw [sizes_append] at h2
          simp only [sizes] at h2
          omega
        have hxl : xs.length = sizes (L.take k) := by have := congrArg List.length hxs; rw [List.length_map, nodesDs_len] at this; exact this
        obtain ⟨x, hx⟩ : ∃ x, tg L k = x := ⟨_, rfl⟩
        rw [hx] at q0 q1 q2 hkid hmem hsz2
        rw [← Nat.add_assoc] at q1 q2
        have hb4 := alloc0 wr (.cells #[.string x.name, .string x.sort, .slice a' x.kids.length cap'] 24)
        have e0 := cellRow hb4 0 (.string x.name) rfl
        have e1 := cellRow hb4 1 (.string x.sort) rfl
        have e2 := cellRow hb4 2 (.slice a' x.kids.length cap') rfl
        have e3 := cellRow (allocOld hv (.cells #[.string x.name, .string x.sort, .slice a' x.kids.length cap'] 24)) 0 (.func (.func 113) #[] #[.pointer (some ⟨Bv, 0, none⟩)]) rfl
        have hk4 : KpG G wr (wr.alloc (.cells #[.string x.name, .string x.sort, .slice a' x.kids.length cap'] 24)) := KpG.of_ext ((Upd.refl _ wr).alloc _)
        have hlen : (L.length : Int) ≤ 4611686018427387904 := by have := length_le_sizes L; omega
        have ihk := ih x hmem (n - 1) a' cap' (d + 1) _ _ (hkid.keptK hk4 hS) (allocOld hv (.cells #[.string x.name, .string x.sort, .slice a' x.kids.length cap'] 24)) (abides_alloc hJ _ hJr) (by have h1 := hkr.size; have h2 := hk4.size; omega) (by simp only [List.length_append, List.length_singleton]; omega) (by omega)
        have hw1 : IntKind.i64.wrap ((d : Int) + 1) = (d : Int) + 1 := IntWalk.i64_in _ (by omega)
        have hw2 : wrap64 ((d : Int) + 1) = (d : Int) + 1 := IntWalk.wrap64_in _ (by omega)
        rw [show (((d + 1 : Nat)) : Int) = (d : Int) + 1 by omega] at ihk
        dsimp only [tV] at ihk
        gi_wp2_with (gi_at_call 113; refine ihk.mono ?_; clear ihk; rintro e W4 (⟨rfl, ys, hys, hJ4, hk5⟩ | ⟨rfl, q, hq, hx4⟩))
        · gi_roundg (L.length - (k + 1))
          case measure => omega
          case rel => 
            refine ⟨k + 1, xs ++ ys, by go_num, rfl, by omega, ?_, by rw [← List.append_assoc]; exact hJ4, (hkr.trans hk4).trans hk5⟩
            rw [List.map_append, hxs, hys, List.take_add_one, nodesDs_append]
            have : L[k]?.toList = [x] := by rw [← hx]; unfold tg; rw [List.getD_eq_getElem?_getD, List.getElem?_eq_getElem hlt]; rfl
            rw [this]
            simp [nodesDs]
        · go_ret
          refine .inr ⟨rfl, ⟨.mk nm so L, some ⟨g, off, none⟩, cap, d⟩ :: (xs ++ q), ?_, by simpa using hx4⟩
          obtain ⟨r, hr⟩ := hq
          refine ⟨r ++ nodesDs (d + 1) (L.drop (k + 1)), ?_⟩
          rw [nodesD_eq]
          simp only [Tm.kids, List.map_cons, List.map_append, hxs, List.cons_append, List.append_assoc]
          rw [← List.append_assoc (List.map Nd.pr q) r, hr]
          have h1 : L = L.take k ++ x :: L.drop (k + 1) := by
            rw [← hx]; unfold tg; rw [List.getD_eq_getElem?_getD, List.getElem?_eq_getElem hlt]; simp
          have h2 := congrArg (nodesDs (d + 1)) h1
          rw [nodesDs_append] at h2
          simp only [nodesDs] at h2
          rw [h2]
          rfl
      · obtain rfl : k = L.length := by omega
        gi_wp2
        go_ret
        refine .inl ⟨rfl, ⟨.mk nm so L, a, cap, d⟩ :: xs, ?_, by simpa using hJr, hkr⟩
        rw [List.map_cons, hxs, List.take_length, nodesD_eq]
        rfl
  · gi_wp2
    go_ret
    exact .inr ⟨rfl, [⟨.mk nm so L, a, cap, d⟩], ⟨nodesDs (d + 1) L, by rw [nodesD_eq]; rfl⟩, hx1⟩

set_option maxHeartbeats 1000000 in
theorem nodes1_in (F : Fence) (hd : F.depth = none) (n : Nat) (hf : ∀ k, F.fn k) (hro : F.round = none) (l Bv Bt n₁ B0 : Nat) (G S : Nat → Prop) (hS : ∀ k, S k → ¬ G k) (hBv : ¬ G Bv) (hG : ∀ k, G k → k < n₁) (J Jx : List Nd → World → Prop) (hJ : AbidesFrom B0 J)
    (t : Tm) (a : Option Addr) (cap : Nat)
    (hY : ∀ pre x W, J pre W → pre.length < t.size → YieldAt F (n - 1) Tryz.prog l x.encs W fun e W' => (e = .returned (.bool true) ∧ J (pre ++ [x]) W' ∧ KpG G W W') ∨ (e = .returned (.bool false) ∧ Jx (pre ++ [x]) W'))
    (W : World) (hR : TlR S W t.kids (.slice a t.kids.length cap)) (hV : W.heap[Bv]? = some (.cells #[(.func (.func 113) #[] #[.pointer (some ⟨Bv, 0, none⟩)])] 163 (0, 0))) (hT : W.heap[Bt]? = some (.cells #[.string t.name, .string t.sort, .slice a t.kids.length cap] 24 (0, 0))) (h0 : J [] W) (hnW : n₁ ≤ W.heap.size) (hsz : ((1 + t.size : Nat) : Int) ≤ 4611686018427387904) :
    CallsIn F n Tryz.prog 114 #[.func (.yield l) #[] #[], .pointer (some ⟨Bv, 0, none⟩), .pointer (some ⟨Bt, 0, none⟩)] W fun e W' => (∃ v, e = .returned v) ∧ ((∃ xs : List Nd, xs.map Nd.pr = nodesD 1 t ∧ J xs W') ∨ (∃ pre : List Nd, pre.map Nd.pr <+: nodesD 1 t ∧ Jx pre W')) := by
  have hdd : ∀ k : Nat, (F.depth.isSome = true → 1 ≤ k) := fun k h => by rw [hd] at h; cases h
  have hp := visit_in F hd hf hro l Bv n₁ t.size B0 G S hS hBv hG J Jx hJ (fun m pre x W hj hl => YieldAt.anyDepth hd m (hY pre x W hj hl)) t (n - 1) a cap 1 [] W hR hV h0 hnW (by simp) hsz
  have c0 := cellRow hT 0 (.string t.name) rfl
  have c1 := cellRow hT 1 (.string t.sort) rfl
  have c2 := cellRow hT 2 (.slice a t.kids.length cap) rfl
  have v0 := cellRow hV 0 (.func (.func 113) #[] #[.pointer (some ⟨Bv, 0, none⟩)]) rfl
  dsimp only [tV] at hp
  refine callsIn_of_wp Tryz.func114 rfl (hf 114) ?_ hro
  simp only [Tryz.ntmps114, List.size_toArray, List.length_cons, List.length_nil, Nat.reduceAdd, Nat.reduceSub, Array.replicate_succ, Array.replicate_zero, List.push_toArray, List.append_toArray, List.nil_append, List.cons_append]
  gi_wp2_with (gi_at_call 113; refine hp.mono ?_; clear hp; rintro e W1 (⟨rfl, xs, hxs, hJ1, _⟩ | ⟨rfl, q, hq, hx⟩))
  · go_end0
    exact ⟨⟨_, rfl⟩, .inl ⟨xs, hxs, by simpa using hJ1⟩⟩
  · go_end0
    exact ⟨⟨_, rfl⟩, .inr ⟨q, hq, by simpa using hx⟩⟩
set_option maxHeartbeats 1000000 in
theorem nodes_x (t : Tm) (u : Value) (w : World) (hu : ∃ a k c, u = .slice a k c) :
    Calls Tryz.prog 80 #[tV t u] w fun e w' => e = .returned (.func (.func 114) #[] #[.pointer (some ⟨w.heap.size + 1, 0, none⟩), .pointer (some ⟨w.heap.size, 0, none⟩)]) ∧ Ext w w' ∧ w'.heap.size = w.heap.size + 2 ∧
      w'.heap[w.heap.size]? = some (.cells #[.string t.name, .string t.sort, u] 24 (0, 0)) ∧ w'.heap[w.heap.size + 1]? = some (.cells #[.func (.func 113) #[] #[.pointer (some ⟨w.heap.size + 1, 0, none⟩)]] 163 (0, 0)) := by
  obtain ⟨a, k, c, rfl⟩ := hu
  dsimp only [tV]
  have hb := alloc_at (w.alloc (.cells #[.string t.name, .string t.sort, .slice a k c] 24)) (.cells #[.nilFunc] 163) (n := w.heap.size + 1) (by simp)
  have v0 := cellRow hb 0 .nilFunc rfl
  have f0 := frozenRow hb 0
  go_enter Tryz.func80, Tryz.ntmps80
  go_wp2_with fail
  go_ret
  exact ⟨rfl, ((Upd.refl (fun _ => False) w).alloc _).alloc _, by simp, allocOld (alloc0 _ _) _, alloc_at _ _ (by simp)⟩

theorem nodes_stops (F : Fence) (hd : F.depth = none) (n : Nat) (hf : ∀ k, F.fn k) (hro : F.round = none) (Bv Bt : Nat) (G S : Nat → Prop) (w : World) (hS : ∀ k, S k → ¬ G k) (hBv : ¬ G Bv) (hG : ∀ k, G k → k < w.heap.size) (hSw : ∀ k, S k → k < w.heap.size) (t : Tm) (a : Option Addr) (cap : Nat)
    (hR : TlR S w t.kids (.slice a t.kids.length cap)) (hV : w.heap[Bv]? = some (.cells #[(.func (.func 113) #[] #[.pointer (some ⟨Bv, 0, none⟩)])] 163 (0, 0))) (hT : w.heap[Bt]? = some (.cells #[.string t.name, .string t.sort, .slice a t.kids.length cap] 24 (0, 0))) (hsz : ((1 + t.size : Nat) : Int) ≤ 4611686018427387904) :
    SeqStopsK F n Tryz.prog 114 #[.pointer (some ⟨Bv, 0, none⟩), .pointer (some ⟨Bt, 0, none⟩)] Nd.encs (KpG G) (fun xs => xs.map Nd.pr = nodesD 1 t) (fun pre => pre.map Nd.pr <+: nodesD 1 t) t.size w := fun l J Jx W hW hJ _ hY h0 =>
  have hE : Ext w W := ⟨hW.os, hW.tape, hW.output, hW.size, fun k hk _ => hW.block k hk⟩
  nodes1_in F hd n hf hro l Bv Bt w.heap.size W.heap.size G S hS hBv hG J Jx hJ t a cap hY W (hR.ext hE) (hE.heap hV (fun h => h)) (hE.heap hT (fun h => h)) h0 hW.size hsz

end Go.Proofs.YtjjaknmnhhfjeaaGreatDoor

/-
  DERIVED: THE SHELF's CONTRACTS AT THIS DUMP, IN PLAIN WORDS (tools/lay-plain.mjs out of 'TryzShelf.lean', which tools/lay-shelf.mjs wrote): THE SAME DECLARATIONS UNDER THE SAME NAMES: 'import', 'namespace', 'open', 'def', 'theorem' AND NOTHING ELSE: no command of the shelf's: FOR A HAND-IN. Each laying: the table of numbers ('.._ren') and one theorem, a field a fact of the dump's own or the kernel's comparison; each contract: ONE APPLICATION.
-/
namespace Go.Proofs
open Go.Shelf
def Tryz.lays169_ren : Go.Shelf.Ren := ⟨fun | 169 => 72 | n => n, fun | 70 => 117 | 9 => 9 | 0 => 0 | 72 => 120 | 37 => 118 | 127 => 161 | 3 => 3 | 5 => 5 | n => n, fun | n => n⟩
theorem Tryz.lays169 : Go.Proofs.Lays.n169 Tryz.prog Tryz.lays169_ren := {
  mixed := by kernel_rfl
  f169 := Tryz.func72.trans (congrArg some (by kernel_rfl))
  t0 := Tryz.underlying0
  a0 := Tryz.isAgg0
  z0 := Tryz.sizeOf0
  v0 := Tryz.zeroValue0
  t3 := Tryz.underlying3
  a3 := Tryz.isAgg3
  z3 := Tryz.sizeOf3
  v3 := Tryz.zeroValue3
  t9 := Tryz.underlying9
  a9 := Tryz.isAgg9
  z9 := Tryz.sizeOf9
  v9 := Tryz.zeroValue9
  t37 := Tryz.underlying118
  a37 := Tryz.isAgg118
  z37 := Tryz.sizeOf118
  v37 := Tryz.zeroValue118
  t70 := Tryz.underlying117
  a70 := Tryz.isAgg117
  z70 := Tryz.sizeOf117
  v70 := Tryz.zeroValue117
  t72 := Tryz.underlying120
  a72 := Tryz.isAgg120
  z72 := Tryz.sizeOf120
  v72 := Tryz.zeroValue120
  t127 := Tryz.underlying161
  a127 := Tryz.isAgg161
  z127 := Tryz.sizeOf161
  v127 := Tryz.zeroValue161 }
theorem Tryz.Builder_Extra_169 : Builder.Extra Tryz.prog Tryz.lays169_ren := {
  sizeBuilder := by kernel_rfl
  liesBuilder := by kernel_rfl
  t5 := Tryz.underlying5
  a5 := Tryz.isAgg5
  z5 := Tryz.sizeOf5
  v5 := Tryz.zeroValue5
  infoByte := by kernel_rfl
  cellsByte := by kernel_rfl
  sizeByte := by kernel_rfl
  neB5 := by decide }
open Go.RowKit in
theorem Tryz.Builder_String_any (B b : Nat) (l : List UInt8) (w : World) (h : Lib.IsBuilder 120 5 B b (Lib.byteCells l) w) (hBw : B ≤ w.heap.size) :
    Calls Tryz.prog 72 #[.pointer (some ⟨b, 0, none⟩)] w fun e w' => e = .returned (.string ⟨l.toArray⟩) ∧ Below B w w' := Any.Builder_String_any Tryz.lays169 Tryz.Builder_Extra_169 B b l w h hBw
def Tryz.lays156_ren : Go.Shelf.Ren := ⟨fun | 156 => 70 | 165 => 108 | 166 => 69 | 169 => 72 | 240 => 107 | 241 => 132 | 276 => 131 | 277 => 153 | n => n, fun | 31 => 39 | 9 => 9 | 3 => 3 | 4 => 4 | 0 => 0 | 20 => 20 | 72 => 120 | 76 => 123 | 70 => 117 | 37 => 118 | 75 => 122 | 127 => 161 | 164 => 181 | 5 => 5 | 80 => 104 | n => n, fun | n => n⟩
theorem Tryz.lays156 : Go.Proofs.Lays.n156 Tryz.prog Tryz.lays156_ren := {
  mixed := by kernel_rfl
  f156 := Tryz.func70.trans (congrArg some (by kernel_rfl))
  f165 := Tryz.func108.trans (congrArg some (by kernel_rfl))
  f166 := Tryz.func69.trans (congrArg some (by kernel_rfl))
  f169 := Tryz.func72.trans (congrArg some (by kernel_rfl))
  f240 := Tryz.func107.trans (congrArg some (by kernel_rfl))
  f241 := Tryz.func132.trans (congrArg some (by kernel_rfl))
  f276 := Tryz.func131.trans (congrArg some (by kernel_rfl))
  f277 := Tryz.func153.trans (congrArg some (by kernel_rfl))
  t0 := Tryz.underlying0
  a0 := Tryz.isAgg0
  z0 := Tryz.sizeOf0
  v0 := Tryz.zeroValue0
  t3 := Tryz.underlying3
  a3 := Tryz.isAgg3
  z3 := Tryz.sizeOf3
  v3 := Tryz.zeroValue3
  t4 := Tryz.underlying4
  a4 := Tryz.isAgg4
  z4 := Tryz.sizeOf4
  v4 := Tryz.zeroValue4
  t9 := Tryz.underlying9
  a9 := Tryz.isAgg9
  z9 := Tryz.sizeOf9
  v9 := Tryz.zeroValue9
  t20 := Tryz.underlying20
  a20 := Tryz.isAgg20
  z20 := Tryz.sizeOf20
  v20 := Tryz.zeroValue20
  t31 := Tryz.underlying39
  a31 := Tryz.isAgg39
  z31 := Tryz.sizeOf39
  v31 := Tryz.zeroValue39
  t37 := Tryz.underlying118
  a37 := Tryz.isAgg118
  z37 := Tryz.sizeOf118
  v37 := Tryz.zeroValue118
  t70 := Tryz.underlying117
  a70 := Tryz.isAgg117
  z70 := Tryz.sizeOf117
  v70 := Tryz.zeroValue117
  t72 := Tryz.underlying120
  a72 := Tryz.isAgg120
  z72 := Tryz.sizeOf120
  v72 := Tryz.zeroValue120
  t75 := Tryz.underlying122
  a75 := Tryz.isAgg122
  z75 := Tryz.sizeOf122
  v75 := Tryz.zeroValue122
  t76 := Tryz.underlying123
  a76 := Tryz.isAgg123
  z76 := Tryz.sizeOf123
  v76 := Tryz.zeroValue123
  t127 := Tryz.underlying161
  a127 := Tryz.isAgg161
  z127 := Tryz.sizeOf161
  v127 := Tryz.zeroValue161
  t164 := Tryz.underlying181
  a164 := Tryz.isAgg181
  z164 := Tryz.sizeOf181
  v164 := Tryz.zeroValue181 }
theorem Tryz.Builder_Extra_156 : Builder.Extra Tryz.prog Tryz.lays156_ren := {
  sizeBuilder := by kernel_rfl
  liesBuilder := by kernel_rfl
  t5 := Tryz.underlying5
  a5 := Tryz.isAgg5
  z5 := Tryz.sizeOf5
  v5 := Tryz.zeroValue5
  infoByte := by kernel_rfl
  cellsByte := by kernel_rfl
  sizeByte := by kernel_rfl
  neB5 := by decide }
open Go.RowKit in
theorem Tryz.strings_Join_none (a : Option Addr) (c : Nat) (sep : ByteArray) (w : World) :
    Calls Tryz.prog 70 #[.slice a 0 c, .string sep] w fun e w' => e = .returned (.string ⟨#[]⟩) ∧ w' = w := Any.strings_Join_none Tryz.lays156 Tryz.Builder_Extra_156 a c sep w
open Go.RowKit in
theorem Tryz.strings_Join (bk o c : Nat) (xs : List ByteArray) (sep : ByteArray) (w : World) (hcells : ∀ (j : Nat) x, xs[j]? = some x → w.cell? ⟨bk, o + j, none⟩ = some (.string x)) (hbk : bk < w.heap.size) (hN : xs.length ≤ 140737488355328) (hcap : xs.length ≤ c) (hlen : (Lib.join (xs.map (·.data.toList)) sep.data.toList).length ≤ 140737488355328) :
    Calls Tryz.prog 70 #[.slice (some ⟨bk, o, none⟩) xs.length c, .string sep] w fun e w' => e = .returned (.string ⟨(Lib.join (xs.map (·.data.toList)) sep.data.toList).toArray⟩) ∧ Below w.heap.size w w' := Any.strings_Join Tryz.lays156 Tryz.Builder_Extra_156 bk o c xs sep w hcells hbk hN hcap hlen
def Tryz.lays137_ren : Go.Shelf.Ren := ⟨fun | 137 => 126 | 217 => 152 | 266 => 164 | n => n, fun | 9 => 9 | 5 => 5 | 3 => 3 | n => n, fun | n => n⟩
theorem Tryz.lays137 : Go.Proofs.Lays.n137 Tryz.prog Tryz.lays137_ren := {
  mixed := by kernel_rfl
  f137 := Tryz.func126.trans (congrArg some (by kernel_rfl))
  f217 := Tryz.func152.trans (congrArg some (by kernel_rfl))
  f266 := Tryz.func164.trans (congrArg some (by kernel_rfl))
  t3 := Tryz.underlying3
  a3 := Tryz.isAgg3
  z3 := Tryz.sizeOf3
  v3 := Tryz.zeroValue3
  t5 := Tryz.underlying5
  a5 := Tryz.isAgg5
  z5 := Tryz.sizeOf5
  v5 := Tryz.zeroValue5
  t9 := Tryz.underlying9
  a9 := Tryz.isAgg9
  z9 := Tryz.sizeOf9
  v9 := Tryz.zeroValue9 }
open Go.RowKit in
theorem Tryz.strings_IndexByte (s : ByteArray) (c : Int) (w : World) :
    Calls Tryz.prog 126 #[.string s, .int .u8 c] w fun e w' => e = .returned (.int .i64 (Lib.indexByte s.data.toList c.toNat.toUInt8)) ∧ w' = w := Any.strings_IndexByte Tryz.lays137 s c w
def Tryz.lays99_ren : Go.Shelf.Ren := ⟨fun | 99 => 125 | 206 => 151 | n => n, fun | 9 => 9 | 4 => 4 | 3 => 3 | n => n, fun | n => n⟩
theorem Tryz.lays99 : Go.Proofs.Lays.n99 Tryz.prog Tryz.lays99_ren := {
  mixed := by kernel_rfl
  f99 := Tryz.func125.trans (congrArg some (by kernel_rfl))
  f206 := Tryz.func151.trans (congrArg some (by kernel_rfl))
  t3 := Tryz.underlying3
  a3 := Tryz.isAgg3
  z3 := Tryz.sizeOf3
  v3 := Tryz.zeroValue3
  t4 := Tryz.underlying4
  a4 := Tryz.isAgg4
  z4 := Tryz.sizeOf4
  v4 := Tryz.zeroValue4
  t9 := Tryz.underlying9
  a9 := Tryz.isAgg9
  z9 := Tryz.sizeOf9
  v9 := Tryz.zeroValue9 }
open Go.RowKit Go.Lib in
theorem Tryz.strings_HasPrefix (s p : ByteArray) (w : World) :
    Calls Tryz.prog 125 #[.string s, .string p] w fun e w' => e = .returned (.bool (Lib.hasPrefix s.data.toList p.data.toList)) ∧ w' = w := Any.strings_HasPrefix Tryz.lays99 s p w
def Tryz.lays157_ren : Go.Shelf.Ren := ⟨fun | 157 => 156 | 229 => 166 | 199 => 167 | 261 => 174 | 311 => 179 | 312 => 180 | n => n, fun | 9 => 9 | 31 => 39 | 3 => 3 | 5 => 5 | 4 => 4 | 119 => 205 | 0 => 0 | 40 => 207 | 152 => 216 | 21 => 21 | 154 => 218 | 51 => 193 | 141 => 220 | 196 => 230 | 193 => 227 | 198 => 233 | 49 => 231 | 194 => 228 | 201 => 236 | 226 => 242 | 46 => 172 | 227 => 243 | n => n, fun | 0 => 1 | 6 => 2 | n => n⟩
theorem Tryz.lays157 : Go.Proofs.Lays.n157 Tryz.prog Tryz.lays157_ren := {
  mixed := by kernel_rfl
  f157 := Tryz.func156.trans (congrArg some (by kernel_rfl))
  f199 := Tryz.func167.trans (congrArg some (by kernel_rfl))
  f229 := Tryz.func166.trans (congrArg some (by kernel_rfl))
  f261 := Tryz.func174.trans (congrArg some (by kernel_rfl))
  f311 := Tryz.func179.trans (congrArg some (by kernel_rfl))
  f312 := Tryz.func180.trans (congrArg some (by kernel_rfl))
  t0 := Tryz.underlying0
  a0 := Tryz.isAgg0
  z0 := Tryz.sizeOf0
  v0 := Tryz.zeroValue0
  t3 := Tryz.underlying3
  a3 := Tryz.isAgg3
  z3 := Tryz.sizeOf3
  v3 := Tryz.zeroValue3
  t4 := Tryz.underlying4
  a4 := Tryz.isAgg4
  z4 := Tryz.sizeOf4
  v4 := Tryz.zeroValue4
  t5 := Tryz.underlying5
  a5 := Tryz.isAgg5
  z5 := Tryz.sizeOf5
  v5 := Tryz.zeroValue5
  t9 := Tryz.underlying9
  a9 := Tryz.isAgg9
  z9 := Tryz.sizeOf9
  v9 := Tryz.zeroValue9
  t21 := Tryz.underlying21
  a21 := Tryz.isAgg21
  z21 := Tryz.sizeOf21
  v21 := Tryz.zeroValue21
  t31 := Tryz.underlying39
  a31 := Tryz.isAgg39
  z31 := Tryz.sizeOf39
  v31 := Tryz.zeroValue39
  t40 := Tryz.underlying207
  a40 := Tryz.isAgg207
  z40 := Tryz.sizeOf207
  v40 := Tryz.zeroValue207
  t46 := Tryz.underlying172
  a46 := Tryz.isAgg172
  z46 := Tryz.sizeOf172
  v46 := Tryz.zeroValue172
  t49 := Tryz.underlying231
  a49 := Tryz.isAgg231
  z49 := Tryz.sizeOf231
  v49 := Tryz.zeroValue231
  t51 := Tryz.underlying193
  a51 := Tryz.isAgg193
  z51 := Tryz.sizeOf193
  v51 := Tryz.zeroValue193
  t119 := Tryz.underlying205
  a119 := Tryz.isAgg205
  z119 := Tryz.sizeOf205
  t141 := Tryz.underlying220
  a141 := Tryz.isAgg220
  z141 := Tryz.sizeOf220
  v141 := Tryz.zeroValue220
  t152 := Tryz.underlying216
  a152 := Tryz.isAgg216
  z152 := Tryz.sizeOf216
  v152 := Tryz.zeroValue216
  t154 := Tryz.underlying218
  a154 := Tryz.isAgg218
  z154 := Tryz.sizeOf218
  v154 := Tryz.zeroValue218
  t193 := Tryz.underlying227
  a193 := Tryz.isAgg227
  z193 := Tryz.sizeOf227
  v193 := Tryz.zeroValue227
  t194 := Tryz.underlying228
  a194 := Tryz.isAgg228
  z194 := Tryz.sizeOf228
  v194 := Tryz.zeroValue228
  t196 := Tryz.underlying230
  a196 := Tryz.isAgg230
  z196 := Tryz.sizeOf230
  v196 := Tryz.zeroValue230
  t198 := Tryz.underlying233
  a198 := Tryz.isAgg233
  z198 := Tryz.sizeOf233
  v198 := Tryz.zeroValue233
  t201 := Tryz.underlying236
  a201 := Tryz.isAgg236
  z201 := Tryz.sizeOf236
  v201 := Tryz.zeroValue236
  t226 := Tryz.underlying242
  a226 := Tryz.isAgg242
  z226 := Tryz.sizeOf242
  v226 := Tryz.zeroValue242
  t227 := Tryz.underlying243
  a227 := Tryz.isAgg243
  z227 := Tryz.sizeOf243
  v227 := Tryz.zeroValue243
  g0 := by kernel_rfl
  g6 := by kernel_rfl }
open Go.RowKit Go.Lib in
theorem Tryz.strings_Fields (s : ByteArray) (w : World) (hs : s.size < 4294967281) (hascii : ∀ (j : Nat) b, s.data.toList[j]? = some b → b.toNat < 128) (htab : Lib.TabIs Tryz.prog w "strings.asciiSpace" .u8 Lib.asciiSpaceTab) :
    Calls Tryz.prog 156 #[.string s] w fun e w' =>
      e = .returned (.slice (some ⟨w.heap.size, 0, none⟩) (Lib.fields s.data.toList).length (Lib.fields s.data.toList).length) ∧ w' = w.alloc (.cells ((Lib.fields s.data.toList).map fun l => Value.string ⟨l.toArray⟩).toArray 9) := Any.strings_Fields Tryz.lays157 (by kernel_rfl) (by kernel_rfl) s w hs hascii htab
def Tryz.lays110_ren : Go.Shelf.Ren := ⟨fun | 110 => 88 | 109 => 120 | n => n, fun | 31 => 39 | 9 => 9 | 4 => 4 | 3 => 3 | 0 => 0 | n => n, fun | n => n⟩
theorem Tryz.lays110 : Go.Proofs.Lays.n110 Tryz.prog Tryz.lays110_ren := {
  mixed := by kernel_rfl
  f109 := Tryz.func120.trans (congrArg some (by kernel_rfl))
  f110 := Tryz.func88.trans (congrArg some (by kernel_rfl))
  t0 := Tryz.underlying0
  a0 := Tryz.isAgg0
  z0 := Tryz.sizeOf0
  v0 := Tryz.zeroValue0
  t3 := Tryz.underlying3
  a3 := Tryz.isAgg3
  z3 := Tryz.sizeOf3
  v3 := Tryz.zeroValue3
  t4 := Tryz.underlying4
  a4 := Tryz.isAgg4
  z4 := Tryz.sizeOf4
  v4 := Tryz.zeroValue4
  t9 := Tryz.underlying9
  a9 := Tryz.isAgg9
  z9 := Tryz.sizeOf9
  v9 := Tryz.zeroValue9
  t31 := Tryz.underlying39
  a31 := Tryz.isAgg39
  z31 := Tryz.sizeOf39
  v31 := Tryz.zeroValue39 }
open Go.Lib in
theorem Tryz.slices_Contains_string (b off n c : Nat) (zs : List ByteArray) (x : ByteArray) (w : World) (hz : n ≤ zs.length) (hbig : n ≤ 9223372036854775807) (hc : ∀ j, j < zs.length → w.cell? ⟨b, off + j, none⟩ = some (.string (zs.getD j ByteArray.empty))) :
    Calls Tryz.prog 88 #[.slice (some ⟨b, off, none⟩) n c, .string x] w fun e w' => e = .returned (.bool (Lib.containsS (zs.take n) x)) ∧ w' = w := Any.slices_Contains_string Tryz.lays110 b off n c zs x w hz hbig hc
open Go.Lib in
theorem Tryz.slices_Contains_string_empty (a : Option Addr) (c : Nat) (x : ByteArray) (w : World) :
    Calls Tryz.prog 88 #[.slice a 0 c, .string x] w fun e w' => e = .returned (.bool false) ∧ w' = w := Any.slices_Contains_string_empty Tryz.lays110 a c x w
def Tryz.laysNm226_ren : Go.Shelf.Ren := ⟨fun | 26 => 137 | 33 => 154 | 34 => 155 | 38 => 165 | n => n, fun | 24 => 39 | 9 => 9 | 3 => 3 | 4 => 4 | 40 => 172 | 0 => 0 | n => n, fun | n => n⟩
theorem Tryz.laysNm226 : Go.Proofs.Lays2.n26 Tryz.prog Tryz.laysNm226_ren := {
  mixed := by kernel_rfl
  f26 := Tryz.func137.trans (congrArg some (by kernel_rfl))
  f33 := Tryz.func154.trans (congrArg some (by kernel_rfl))
  f34 := Tryz.func155.trans (congrArg some (by kernel_rfl))
  f38 := Tryz.func165.trans (congrArg some (by kernel_rfl))
  t0 := Tryz.underlying0
  a0 := Tryz.isAgg0
  z0 := Tryz.sizeOf0
  v0 := Tryz.zeroValue0
  t3 := Tryz.underlying3
  a3 := Tryz.isAgg3
  z3 := Tryz.sizeOf3
  v3 := Tryz.zeroValue3
  t4 := Tryz.underlying4
  a4 := Tryz.isAgg4
  z4 := Tryz.sizeOf4
  v4 := Tryz.zeroValue4
  t9 := Tryz.underlying9
  a9 := Tryz.isAgg9
  z9 := Tryz.sizeOf9
  v9 := Tryz.zeroValue9
  t24 := Tryz.underlying39
  a24 := Tryz.isAgg39
  z24 := Tryz.sizeOf39
  v24 := Tryz.zeroValue39
  t40 := Tryz.underlying172
  a40 := Tryz.isAgg172
  z40 := Tryz.sizeOf172
  v40 := Tryz.zeroValue172 }
theorem Tryz.slices_BinarySearch_string (b off n c : Nat) (Sx : Nat → ByteArray) (x : ByteArray) (w : World) (hbig : n < 4611686018427387904) (hc : ∀ j, j < n → w.cell? ⟨b, off + j, none⟩ = some (.string (Sx j))) :
    Calls Tryz.prog 137 #[.slice (some ⟨b, off, none⟩) n c, .string x] w fun e w' =>
      e = .returned (.tuple #[.int .i64 (Lib.bsGo (fun t => Op.bytesLess (Sx t).toList x.toList) n 0 n : Nat), .bool (decide (Lib.bsGo (fun t => Op.bytesLess (Sx t).toList x.toList) n 0 n < n ∧ Sx (Lib.bsGo (fun t => Op.bytesLess (Sx t).toList x.toList) n 0 n) = x))]) ∧ ∃ q, w' = w.drewN q := Any2.slices_BinarySearch_string Tryz.laysNm226 b off n c Sx x w hbig hc
end Go.Proofs
