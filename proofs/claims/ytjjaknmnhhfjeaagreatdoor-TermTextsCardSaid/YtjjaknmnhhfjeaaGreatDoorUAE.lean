/- The texts I1 Shelf LX LN I2, one behind the other. -/
import Derived.RangeFuncNested
import Derived.RangeFuncBound
import Derived.RangeFuncCalls
import Derived.RangeFuncLeaves
import Derived.Shelf.Abstract
import Derived.Shelf.RegionOpen
import Derived.WalkKit
import Derived.OwnWalkIn
import Derived.TacticsInMore
import Derived.LoopNIn
import Derived.LoopIn
import Derived.Sort.LoopGhostIn
import Derived.Laws.EntriesVeiled
import Derived.Test.YtjjaknmnhhfjeaaGreatDoorUAB
import Derived.Test.YtjjaknmnhhfjeaaGreatDoorProg
import Derived.Shelf.Strings.Builder1
import Derived.Shelf.Strings.Builder2
import Derived.Shelf.Strings.OnBuilder
import Derived.Shelf.Small.Bits
import Derived.Shelf.Small.Strs
import Derived.Shelf.Strconv.Itoa0
import Derived.Shelf.Strings.Search1
import Derived.Shelf.Strings.Prefix
import Derived.Shelf.Strings.Fields
import Derived.Shelf.Slices.Turned
import Derived.Shelf.Slices.Equal
import Derived.Shelf.Slices.Empties2
import Derived.Ground.Names2Prog
import Derived.Shelf.Spec.SearchS
import Derived.Lib.Strings
import Derived.Lib.SlicesS
/- The nodes of a term, one after the other. -/
namespace Go.Proofs.YtjjaknmnhhfjeaaGreatDoor
open Go.RowKit Go.Hw Go
set_option linter.unusedVariables false
set_option linter.unusedSimpArgs false

open Go.Shelf Tm
attribute [local go_sem] Oper.semAt_some
theorem room_of_none {F : Fence} (hd : F.depth = none) (k : Nat) : F.room k := fun d h => by rw [hd] at h; cases h
theorem RoundIn.anyDepth {F : Fence} (hd : F.depth = none) {m m' : Nat} {P : Program} {l : Nat} {f : FuncId} {tmps : Array Value} {assign body : Code} {w : World} {R : Ending → World → Prop}
    (h : RoundIn F m P l f tmps assign body w R) : RoundIn F m' P l f tmps assign body w R := ⟨h.1, fun c cs _ => h.2 c cs (room_of_none hd _)⟩
theorem YieldAt.anyDepth {F : Fence} (hd : F.depth = none) {m : Nat} (m' : Nat) {P : Program} {l : Nat} {args : Array Value} {W : World} {R : Ending → World → Prop} (h : YieldAt F m P l args W R) : YieldAt F m' P l args W R := by
  obtain ⟨fn, tmps, assign, body, hy, hR⟩ := h
  exact ⟨fn, tmps, assign, body, hy, RoundIn.anyDepth hd hR⟩
structure Nd where
  t : Tm
  a : Option Addr
  cap : Nat
  d : Nat
def Nd.encs (x : Nd) : Array Value := #[tV x.t (.slice x.a x.t.kids.length x.cap), .int .i64 (x.d : Int)]
def Nd.pr (x : Nd) : Tm × Nat := (x.t, x.d)
theorem abides_alloc {J : List Nd → World → Prop} {B : Nat} (h : AbidesFrom B J) {pre : List Nd} {W : World} (o : Obj) (hj : J pre W) : J pre (W.alloc o) := h pre W _ none hj (World.grownBy_alloc W o none) (fun r e => by cases e)
set_option maxRecDepth 100000 in
set_option maxHeartbeats 4000000 in
theorem visit_in (F : Fence) (hd : F.depth = none) (hf : ∀ k, F.fn k) (hro : F.round = none) (l Bv n₁ N B0 : Nat) (G S : Nat → Prop) (hS : ∀ k, S k → ¬ G k) (hBv : ¬ G Bv) (hG : ∀ k, G k → k < n₁) (J Jx : List Nd → World → Prop) (hJ : AbidesFrom B0 J)
    (hY : ∀ m pre x W, J pre W → pre.length < N → YieldAt F m Tryz.prog l x.encs W fun e W' => (e = .returned (.bool true) ∧ J (pre ++ [x]) W' ∧ KpG G W W') ∨ (e = .returned (.bool false) ∧ Jx (pre ++ [x]) W')) :
    ∀ (t : Tm) (n : Nat) (a : Option Addr) (cap d : Nat) (pre : List Nd) (W : World), TlR S W t.kids (.slice a t.kids.length cap) → W.heap[Bv]? = some (.cells #[(.func (.func 113) #[] #[.pointer (some ⟨Bv, 0, none⟩)])] 163 (0, 0)) → J pre W → n₁ ≤ W.heap.size → pre.length + t.size ≤ N → ((d + t.size : Nat) : Int) ≤ 4611686018427387904 →
      CallsIn F n Tryz.prog 113 #[tV t (.slice a t.kids.length cap), .int .i64 (d : Int), .func (.yield l) #[] #[], .pointer (some ⟨Bv, 0, none⟩)] W fun e W' =>
        (e = .returned (.bool true) ∧ ∃ xs : List Nd, xs.map Nd.pr = nodesD d t ∧ J (pre ++ xs) W' ∧ KpG G W W') ∨ (e = .returned (.bool false) ∧ ∃ q : List Nd, q.map Nd.pr <+: nodesD d t ∧ Jx (pre ++ q) W') := by
  have hdd : ∀ k : Nat, (F.depth.isSome = true → 1 ≤ k) := fun k h => by rw [hd] at h; cases h
  refine Tm.ind (fun nm so L ih => ?_)
  intro n a cap d pre W hR hV hJ0 hn1 hN hdb
  have hsz := size_eq (.mk nm so L)
  dsimp only [tV, Tm.name, Tm.sort, Tm.kids] at hR hsz ⊢
  rw [hsz] at hN hdb
  have hb := alloc0 W (.cells #[.string nm, .string so, .slice a L.length cap] 24)
  have c0 := cellRow hb 0 (.string nm) rfl
  have c1 := cellRow hb 1 (.string so) rfl
  have c2 := cellRow hb 2 (.slice a L.length cap) rfl
  have hU0 : KpG G W (W.alloc (.cells #[.string nm, .string so, .slice a L.length cap] 24)) := KpG.of_ext ((Upd.refl _ W).alloc _)
  have hGB : ¬ G W.heap.size := fun h => by have := hG _ h; omega
  obtain ⟨fn, tmps, assign, body, hy, hR1⟩ := hY (n - 1) pre ⟨.mk nm so L, a, cap, d⟩ (W.alloc (.cells #[.string nm, .string so, .slice a L.length cap] 24)) (abides_alloc hJ _ hJ0) (by omega)
  dsimp only [Nd.encs, tV, Tm.name, Tm.sort, Tm.kids] at hy
  refine callsIn_of_wp Tryz.func113 rfl (hf 113) ?_ hro
  simp only [Tryz.ntmps113, List.size_toArray, List.length_cons, List.length_nil, Nat.reduceAdd, Nat.reduceSub, Array.replicate_succ, Array.replicate_zero, List.push_toArray, List.append_toArray, List.nil_append, List.cons_append]
  gi_wp2
  refine hR1.mono ?_
  clear hR1
  rintro e W1 (⟨rfl, hJ1, hk1⟩ | ⟨rfl, hx1⟩)
  · have hb1 := hk1.cells _ _ _ _ hGB hb
    have d2 := cellRow hb1 2 (.slice a L.length cap) rfl
    gi_wp2
    gi_loopg [18] (L.length) (fun gk iv wr => ∃ (k : Nat) (xs : List Nd), iv = .int .i64 (k : Int) ∧ gk = L.length - k ∧ k ≤ L.length ∧ xs.map Nd.pr = nodesDs (d + 1) (L.take k) ∧ J (pre ++ [⟨.mk nm so L, a, cap, d⟩] ++ xs) wr ∧ KpG G W wr)
    case atStart => exact ⟨0, [], rfl, rfl, Nat.zero_le _, rfl, by simpa using hJ1, hU0.trans hk1⟩
    case round =>
      obtain ⟨k, xs, rfl, rfl, hk, hxs, hJr, hkr⟩ := hrel
      by_cases hlt : k < L.length
      · obtain ⟨g, off, rfl, _, hat⟩ := (hR.keptK hkr hS).at_ (by omega)
        obtain ⟨a', cap', q0, q1, q2, hkid⟩ := hat k hlt
        have z0 : (0 : Int) ≤ (k : Int) := by omega
        have z1 : (k : Int) < (L.length : Int) := by omega
        have z2 : decide ((k : Int) < (L.length : Int)) = true := decide_eq_true z1
        have hv := hkr.cells _ _ _ _ hBv hV
        have hmem : tg L k ∈ L := by unfold tg; rw [List.getD_eq_getElem?_getD, List.getElem?_eq_getElem hlt]; exact List.getElem_mem hlt
        have hsz2 : sizes (L.take k) + (tg L k).size ≤ sizes L := by
          have h1 : L = L.take k ++ tg L k :: L.drop (k + 1) := by
            unfold tg; rw [List.getD_eq_getElem?_getD, List.getElem?_eq_getElem hlt]; simp
          have h2 := congrArg sizes h1
          rw [sizes_append] at h2
          simp only [sizes] at h2
          omega
        have hxl : xs.length = sizes (L.take k) := by have := congrArg List.length hxs; rw [List.length_map, nodesDs_len] at this; exact this
        obtain ⟨x, hx⟩ : ∃ x, tg L k = x := ⟨_, rfl⟩
        rw [hx] at q0 q1 q2 hkid hmem hsz2
        rw [← Nat.add_assoc] at q1 q2
        have hb4 := alloc0 wr (.cells #[.string x.name, .string x.sort, .slice a' x.kids.length cap'] 24)
        have e0 := cellRow hb4 0 (.string x.name) rfl
        have e1 := cellRow hb4 1 (.string x.sort) rfl
        have e2 := cellRow hb4 2 (.slice a' x.kids.length cap') rfl
        have e3 := cellRow (allocOld hv (.cells #[.string x.name, .string x.sort, .slice a' x.kids.length cap'] 24)) 0 (.func (.func 113) #[] #[.pointer (some ⟨Bv, 0, none⟩)]) rfl
        have hk4 : KpG G wr (wr.alloc (.cells #[.string x.name, .string x.sort, .slice a' x.kids.length cap'] 24)) := KpG.of_ext ((Upd.refl _ wr).alloc _)
        have hlen : (L.length : Int) ≤ 4611686018427387904 := by have := length_le_sizes L; omega
        have ihk := ih x hmem (n - 1) a' cap' (d + 1) _ _ (hkid.keptK hk4 hS) (allocOld hv (.cells #[.string x.name, .string x.sort, .slice a' x.kids.length cap'] 24)) (abides_alloc hJ _ hJr) (by have h1 := hkr.size; have h2 := hk4.size; omega) (by simp only [List.length_append, List.length_singleton]; omega) (by omega)
        have hw1 : IntKind.i64.wrap ((d : Int) + 1) = (d : Int) + 1 := IntWalk.i64_in _ (by omega)
        have hw2 : wrap64 ((d : Int) + 1) = (d : Int) + 1 := IntWalk.wrap64_in _ (by omega)
        rw [show (((d + 1 : Nat)) : Int) = (d : Int) + 1 by omega] at ihk
        dsimp only [tV] at ihk
        gi_wp2_with (gi_at_call 113; refine ihk.mono ?_; clear ihk; rintro e W4 (⟨rfl, ys, hys, hJ4, hk5⟩ | ⟨rfl, q, hq, hx4⟩))
        · gi_roundg (L.length - (k + 1))
          case measure => omega
          case rel => 
            refine ⟨k + 1, xs ++ ys, by go_num, rfl, by omega, ?_, by rw [← List.append_assoc]; exact hJ4, (hkr.trans hk4).trans hk5⟩
            rw [List.map_append, hxs, hys, List.take_add_one, nodesDs_append]
            have : L[k]?.toList = [x] := by rw [← hx]; unfold tg; rw [List.getD_eq_getElem?_getD, List.getElem?_eq_getElem hlt]; rfl
            rw [this]
            simp [nodesDs]
        · go_ret
          refine .inr ⟨rfl, ⟨.mk nm so L, some ⟨g, off, none⟩, cap, d⟩ :: (xs ++ q), ?_, by simpa using hx4⟩
          obtain ⟨r, hr⟩ := hq
          refine ⟨r ++ nodesDs (d + 1) (L.drop (k + 1)), ?_⟩
          rw [nodesD_eq]
          simp only [Tm.kids, List.map_cons, List.map_append, hxs, List.cons_append, List.append_assoc]
          rw [← List.append_assoc (List.map Nd.pr q) r, hr]
          have h1 : L = L.take k ++ x :: L.drop (k + 1) := by
            rw [← hx]; unfold tg; rw [List.getD_eq_getElem?_getD, List.getElem?_eq_getElem hlt]; simp
          have h2 := congrArg (nodesDs (d + 1)) h1
          rw [nodesDs_append] at h2
          simp only [nodesDs] at h2
          rw [h2]
          rfl
      · obtain rfl : k = L.length := by omega
        gi_wp2
        go_ret
        refine .inl ⟨rfl, ⟨.mk nm so L, a, cap, d⟩ :: xs, ?_, by simpa using hJr, hkr⟩
        rw [List.map_cons, hxs, List.take_length, nodesD_eq]
        rfl
  · gi_wp2
    go_ret
    exact .inr ⟨rfl, [⟨.mk nm so L, a, cap, d⟩], ⟨nodesDs (d + 1) L, by rw [nodesD_eq]; rfl⟩, hx1⟩

set_option maxHeartbeats 1000000 in
theorem nodes1_in (F : Fence) (hd : F.depth = none) (n : Nat) (hf : ∀ k, F.fn k) (hro : F.round = none) (l Bv Bt n₁ B0 : Nat) (G S : Nat → Prop) (hS : ∀ k, S k → ¬ G k) (hBv : ¬ G Bv) (hG : ∀ k, G k → k < n₁) (J Jx : List Nd → World → Prop) (hJ : AbidesFrom B0 J)
    (t : Tm) (a : Option Addr) (cap : Nat)
    (hY : ∀ pre x W, J pre W → pre.length < t.size → YieldAt F (n - 1) Tryz.prog l x.encs W fun e W' => (e = .returned (.bool true) ∧ J (pre ++ [x]) W' ∧ KpG G W W') ∨ (e = .returned (.bool false) ∧ Jx (pre ++ [x]) W'))
    (W : World) (hR : TlR S W t.kids (.slice a t.kids.length cap)) (hV : W.heap[Bv]? = some (.cells #[(.func (.func 113) #[] #[.pointer (some ⟨Bv, 0, none⟩)])] 163 (0, 0))) (hT : W.heap[Bt]? = some (.cells #[.string t.name, .string t.sort, .slice a t.kids.length cap] 24 (0, 0))) (h0 : J [] W) (hnW : n₁ ≤ W.heap.size) (hsz : ((1 + t.size : Nat) : Int) ≤ 4611686018427387904) :
    CallsIn F n Tryz.prog 114 #[.func (.yield l) #[] #[], .pointer (some ⟨Bv, 0, none⟩), .pointer (some ⟨Bt, 0, none⟩)] W fun e W' => (∃ v, e = .returned v) ∧ ((∃ xs : List Nd, xs.map Nd.pr = nodesD 1 t ∧ J xs W') ∨ (∃ pre : List Nd, pre.map Nd.pr <+: nodesD 1 t ∧ Jx pre W')) := by
  have hdd : ∀ k : Nat, (F.depth.isSome = true → 1 ≤ k) := fun k h => by rw [hd] at h; cases h
  have hp := visit_in F hd hf hro l Bv n₁ t.size B0 G S hS hBv hG J Jx hJ (fun m pre x W hj hl => YieldAt.anyDepth hd m (hY pre x W hj hl)) t (n - 1) a cap 1 [] W hR hV h0 hnW (by simp) hsz
  have c0 := cellRow hT 0 (.string t.name) rfl
  have c1 := cellRow hT 1 (.string t.sort) rfl
  have c2 := cellRow hT 2 (.slice a t.kids.length cap) rfl
  have v0 := cellRow hV 0 (.func (.func 113) #[] #[.pointer (some ⟨Bv, 0, none⟩)]) rfl
  dsimp only [tV] at hp
  refine callsIn_of_wp Tryz.func114 rfl (hf 114) ?_ hro
  simp only [Tryz.ntmps114, List.size_toArray, List.length_cons, List.length_nil, Nat.reduceAdd, Nat.reduceSub, Array.replicate_succ, Array.replicate_zero, List.push_toArray, List.append_toArray, List.nil_append, List.cons_append]
  gi_wp2_with (gi_at_call 113; refine hp.mono ?_; clear hp; rintro e W1 (⟨rfl, xs, hxs, hJ1, _⟩ | ⟨rfl, q, hq, hx⟩))
  · go_end0
    exact ⟨⟨_, rfl⟩, .inl ⟨xs, hxs, by simpa using hJ1⟩⟩
  · go_end0
    exact ⟨⟨_, rfl⟩, .inr ⟨q, hq, by simpa using hx⟩⟩
set_option maxHeartbeats 1000000 in
theorem nodes_x (t : Tm) (u : Value) (w : World) (hu : ∃ a k c, u = .slice a k c) :
    Calls Tryz.prog 80 #[tV t u] w fun e w' => e = .returned (.func (.func 114) #[] #[.pointer (some ⟨w.heap.size + 1, 0, none⟩), .pointer (some ⟨w.heap.size, 0, none⟩)]) ∧ Ext w w' ∧ w'.heap.size = w.heap.size + 2 ∧
      w'.heap[w.heap.size]? = some (.cells #[.string t.name, .string t.sort, u] 24 (0, 0)) ∧ w'.heap[w.heap.size + 1]? = some (.cells #[.func (.func 113) #[] #[.pointer (some ⟨w.heap.size + 1, 0, none⟩)]] 163 (0, 0)) := by
  obtain ⟨a, k, c, rfl⟩ := hu
  dsimp only [tV]
  have hb := alloc_at (w.alloc (.cells #[.string t.name, .string t.sort, .slice a k c] 24)) (.cells #[.nilFunc] 163) (n := w.heap.size + 1) (by simp)
  have v0 := cellRow hb 0 .nilFunc rfl
  have f0 := frozenRow hb 0
  go_enter Tryz.func80, Tryz.ntmps80
  go_wp2_with fail
  go_ret
  exact ⟨rfl, ((Upd.refl (fun _ => False) w).alloc _).alloc _, by simp, allocOld (alloc0 _ _) _, alloc_at _ _ (by simp)⟩

theorem nodes_stops (F : Fence) (hd : F.depth = none) (n : Nat) (hf : ∀ k, F.fn k) (hro : F.round = none) (Bv Bt : Nat) (G S : Nat → Prop) (w : World) (hS : ∀ k, S k → ¬ G k) (hBv : ¬ G Bv) (hG : ∀ k, G k → k < w.heap.size) (hSw : ∀ k, S k → k < w.heap.size) (t : Tm) (a : Option Addr) (cap : Nat)
    (hR : TlR S w t.kids (.slice a t.kids.length cap)) (hV : w.heap[Bv]? = some (.cells #[(.func (.func 113) #[] #[.pointer (some ⟨Bv, 0, none⟩)])] 163 (0, 0))) (hT : w.heap[Bt]? = some (.cells #[.string t.name, .string t.sort, .slice a t.kids.length cap] 24 (0, 0))) (hsz : ((1 + t.size : Nat) : Int) ≤ 4611686018427387904) :
    SeqStopsK F n Tryz.prog 114 #[.pointer (some ⟨Bv, 0, none⟩), .pointer (some ⟨Bt, 0, none⟩)] Nd.encs (KpG G) (fun xs => xs.map Nd.pr = nodesD 1 t) (fun pre => pre.map Nd.pr <+: nodesD 1 t) t.size w := fun l J Jx W hW hJ _ hY h0 =>
  have hE : Ext w W := ⟨hW.os, hW.tape, hW.output, hW.size, fun k hk _ => hW.block k hk⟩
  nodes1_in F hd n hf hro l Bv Bt w.heap.size W.heap.size G S hS hBv hG J Jx hJ t a cap hY W (hR.ext hE) (hE.heap hV (fun h => h)) (hE.heap hT (fun h => h)) h0 hW.size hsz

end Go.Proofs.YtjjaknmnhhfjeaaGreatDoor

/-
  DERIVED: THE SHELF's CONTRACTS AT THIS DUMP, IN PLAIN WORDS (tools/lay-plain.mjs out of 'TryzShelf.lean', which tools/lay-shelf.mjs wrote): THE SAME DECLARATIONS UNDER THE SAME NAMES: 'import', 'namespace', 'open', 'def', 'theorem' AND NOTHING ELSE: no command of the shelf's: FOR A HAND-IN. Each laying: the table of numbers ('.._ren') and one theorem, a field a fact of the dump's own or the kernel's comparison; each contract: ONE APPLICATION.
-/
namespace Go.Proofs
open Go.Shelf
def Tryz.lays169_ren : Go.Shelf.Ren := ⟨fun | 169 => 72 | n => n, fun | 70 => 117 | 9 => 9 | 0 => 0 | 72 => 120 | 37 => 118 | 127 => 161 | 3 => 3 | 5 => 5 | n => n, fun | n => n⟩
theorem Tryz.lays169 : Go.Proofs.Lays.n169 Tryz.prog Tryz.lays169_ren := {
  mixed := by kernel_rfl
  f169 := Tryz.func72.trans (congrArg some (by kernel_rfl))
  t0 := Tryz.underlying0
  a0 := Tryz.isAgg0
  z0 := Tryz.sizeOf0
  v0 := Tryz.zeroValue0
  t3 := Tryz.underlying3
  a3 := Tryz.isAgg3
  z3 := Tryz.sizeOf3
  v3 := Tryz.zeroValue3
  t9 := Tryz.underlying9
  a9 := Tryz.isAgg9
  z9 := Tryz.sizeOf9
  v9 := Tryz.zeroValue9
  t37 := Tryz.underlying118
  a37 := Tryz.isAgg118
  z37 := Tryz.sizeOf118
  v37 := Tryz.zeroValue118
  t70 := Tryz.underlying117
  a70 := Tryz.isAgg117
  z70 := Tryz.sizeOf117
  v70 := Tryz.zeroValue117
  t72 := Tryz.underlying120
  a72 := Tryz.isAgg120
  z72 := Tryz.sizeOf120
  v72 := Tryz.zeroValue120
  t127 := Tryz.underlying161
  a127 := Tryz.isAgg161
  z127 := Tryz.sizeOf161
  v127 := Tryz.zeroValue161 }
theorem Tryz.Builder_Extra_169 : Builder.Extra Tryz.prog Tryz.lays169_ren := {
  sizeBuilder := by kernel_rfl
  liesBuilder := by kernel_rfl
  t5 := Tryz.underlying5
  a5 := Tryz.isAgg5
  z5 := Tryz.sizeOf5
  v5 := Tryz.zeroValue5
  infoByte := by kernel_rfl
  cellsByte := by kernel_rfl
  sizeByte := by kernel_rfl
  neB5 := by decide }
open Go.RowKit in
theorem Tryz.Builder_String_any (B b : Nat) (l : List UInt8) (w : World) (h : Lib.IsBuilder 120 5 B b (Lib.byteCells l) w) (hBw : B ≤ w.heap.size) :
    Calls Tryz.prog 72 #[.pointer (some ⟨b, 0, none⟩)] w fun e w' => e = .returned (.string ⟨l.toArray⟩) ∧ Below B w w' := Any.Builder_String_any Tryz.lays169 Tryz.Builder_Extra_169 B b l w h hBw
def Tryz.lays156_ren : Go.Shelf.Ren := ⟨fun | 156 => 70 | 165 => 108 | 166 => 69 | 169 => 72 | 240 => 107 | 241 => 132 | 276 => 131 | 277 => 153 | n => n, fun | 31 => 39 | 9 => 9 | 3 => 3 | 4 => 4 | 0 => 0 | 20 => 20 | 72 => 120 | 76 => 123 | 70 => 117 | 37 => 118 | 75 => 122 | 127 => 161 | 164 => 181 | 5 => 5 | 80 => 104 | n => n, fun | n => n⟩
theorem Tryz.lays156 : Go.Proofs.Lays.n156 Tryz.prog Tryz.lays156_ren := {
  mixed := by kernel_rfl
  f156 := Tryz.func70.trans (congrArg some (by kernel_rfl))
  f165 := Tryz.func108.trans (congrArg some (by kernel_rfl))
  f166 := Tryz.func69.trans (congrArg some (by kernel_rfl))
  f169 := Tryz.func72.trans (congrArg some (by kernel_rfl))
  f240 := Tryz.func107.trans (congrArg some (by kernel_rfl))
  f241 := Tryz.func132.trans (congrArg some (by kernel_rfl))
  f276 := Tryz.func131.trans (congrArg some (by kernel_rfl))
  f277 := Tryz.func153.trans (congrArg some (by kernel_rfl))
  t0 := Tryz.underlying0
  a0 := Tryz.isAgg0
  z0 := Tryz.sizeOf0
  v0 := Tryz.zeroValue0
  t3 := Tryz.underlying3
  a3 := Tryz.isAgg3
  z3 := Tryz.sizeOf3
  v3 := Tryz.zeroValue3
  t4 := Tryz.underlying4
  a4 := Tryz.isAgg4
  z4 := Tryz.sizeOf4
  v4 := Tryz.zeroValue4
  t9 := Tryz.underlying9
  a9 := Tryz.isAgg9
  z9 := Tryz.sizeOf9
  v9 := Tryz.zeroValue9
  t20 := Tryz.underlying20
  a20 := Tryz.isAgg20
  z20 := Tryz.sizeOf20
  v20 := Tryz.zeroValue20
  t31 := Tryz.underlying39
  a31 := Tryz.isAgg39
  z31 := Tryz.sizeOf39
  v31 := Tryz.zeroValue39
  t37 := Tryz.underlying118
  a37 := Tryz.isAgg118
  z37 := Tryz.sizeOf118
  v37 := Tryz.zeroValue118
  t70 := Tryz.underlying117
  a70 := Tryz.isAgg117
  z70 := Tryz.sizeOf117
  v70 := Tryz.zeroValue117
  t72 := Tryz.underlying120
  a72 := Tryz.isAgg120
  z72 := Tryz.sizeOf120
  v72 := Tryz.zeroValue120
  t75 := Tryz.underlying122
  a75 := Tryz.isAgg122
  z75 := Tryz.sizeOf122
  v75 := Tryz.zeroValue122
  t76 := Tryz.underlying123
  a76 := Tryz.isAgg123
  z76 := Tryz.sizeOf123
  v76 := Tryz.zeroValue123
  t127 := Tryz.underlying161
  a127 := Tryz.isAgg161
  z127 := Tryz.sizeOf161
  v127 := Tryz.zeroValue161
  t164 := Tryz.underlying181
  a164 := Tryz.isAgg181
  z164 := Tryz.sizeOf181
  v164 := Tryz.zeroValue181 }
theorem Tryz.Builder_Extra_156 : Builder.Extra Tryz.prog Tryz.lays156_ren := {
  sizeBuilder := by kernel_rfl
  liesBuilder := by kernel_rfl
  t5 := Tryz.underlying5
  a5 := Tryz.isAgg5
  z5 := Tryz.sizeOf5
  v5 := Tryz.zeroValue5
  infoByte := by kernel_rfl
  cellsByte := by kernel_rfl
  sizeByte := by kernel_rfl
  neB5 := by decide }
open Go.RowKit in
theorem Tryz.strings_Join_none (a : Option Addr) (c : Nat) (sep : ByteArray) (w : World) :
    Calls Tryz.prog 70 #[.slice a 0 c, .string sep] w fun e w' => e = .returned (.string ⟨#[]⟩) ∧ w' = w := Any.strings_Join_none Tryz.lays156 Tryz.Builder_Extra_156 a c sep w
open Go.RowKit in
theorem Tryz.strings_Join (bk o c : Nat) (xs : List ByteArray) (sep : ByteArray) (w : World) (hcells : ∀ (j : Nat) x, xs[j]? = some x → w.cell? ⟨bk, o + j, none⟩ = some (.string x)) (hbk : bk < w.heap.size) (hN : xs.length ≤ 140737488355328) (hcap : xs.length ≤ c) (hlen : (Lib.join (xs.map (·.data.toList)) sep.data.toList).length ≤ 140737488355328) :
    Calls Tryz.prog 70 #[.slice (some ⟨bk, o, none⟩) xs.length c, .string sep] w fun e w' => e = .returned (.string ⟨(Lib.join (xs.map (·.data.toList)) sep.data.toList).toArray⟩) ∧ Below w.heap.size w w' := Any.strings_Join Tryz.lays156 Tryz.Builder_Extra_156 bk o c xs sep w hcells hbk hN hcap hlen
def Tryz.lays137_ren : Go.Shelf.Ren := ⟨fun | 137 => 126 | 217 => 152 | 266 => 164 | n => n, fun | 9 => 9 | 5 => 5 | 3 => 3 | n => n, fun | n => n⟩
theorem Tryz.lays137 : Go.Proofs.Lays.n137 Tryz.prog Tryz.lays137_ren := {
  mixed := by kernel_rfl
  f137 := Tryz.func126.trans (congrArg some (by kernel_rfl))
  f217 := Tryz.func152.trans (congrArg some (by kernel_rfl))
  f266 := Tryz.func164.trans (congrArg some (by kernel_rfl))
  t3 := Tryz.underlying3
  a3 := Tryz.isAgg3
  z3 := Tryz.sizeOf3
  v3 := Tryz.zeroValue3
  t5 := Tryz.underlying5
  a5 := Tryz.isAgg5
  z5 := Tryz.sizeOf5
  v5 := Tryz.zeroValue5
  t9 := Tryz.underlying9
  a9 := Tryz.isAgg9
  z9 := Tryz.sizeOf9
  v9 := Tryz.zeroValue9 }
open Go.RowKit in
theorem Tryz.strings_IndexByte (s : ByteArray) (c : Int) (w : World) :
    Calls Tryz.prog 126 #[.string s, .int .u8 c] w fun e w' => e = .returned (.int .i64 (Lib.indexByte s.data.toList c.toNat.toUInt8)) ∧ w' = w := Any.strings_IndexByte Tryz.lays137 s c w
def Tryz.lays99_ren : Go.Shelf.Ren := ⟨fun | 99 => 125 | 206 => 151 | n => n, fun | 9 => 9 | 4 => 4 | 3 => 3 | n => n, fun | n => n⟩
theorem Tryz.lays99 : Go.Proofs.Lays.n99 Tryz.prog Tryz.lays99_ren := {
  mixed := by kernel_rfl
  f99 := Tryz.func125.trans (congrArg some (by kernel_rfl))
  f206 := Tryz.func151.trans (congrArg some (by kernel_rfl))
  t3 := Tryz.underlying3
  a3 := Tryz.isAgg3
  z3 := Tryz.sizeOf3
  v3 := Tryz.zeroValue3
  t4 := Tryz.underlying4
  a4 := Tryz.isAgg4
  z4 := Tryz.sizeOf4
  v4 := Tryz.zeroValue4
  t9 := Tryz.underlying9
  a9 := Tryz.isAgg9
  z9 := Tryz.sizeOf9
  v9 := Tryz.zeroValue9 }
open Go.RowKit Go.Lib in
theorem Tryz.strings_HasPrefix (s p : ByteArray) (w : World) :
    Calls Tryz.prog 125 #[.string s, .string p] w fun e w' => e = .returned (.bool (Lib.hasPrefix s.data.toList p.data.toList)) ∧ w' = w := Any.strings_HasPrefix Tryz.lays99 s p w
def Tryz.lays157_ren : Go.Shelf.Ren := ⟨fun | 157 => 156 | 229 => 166 | 199 => 167 | 261 => 174 | 311 => 179 | 312 => 180 | n => n, fun | 9 => 9 | 31 => 39 | 3 => 3 | 5 => 5 | 4 => 4 | 119 => 205 | 0 => 0 | 40 => 207 | 152 => 216 | 21 => 21 | 154 => 218 | 51 => 193 | 141 => 220 | 196 => 230 | 193 => 227 | 198 => 233 | 49 => 231 | 194 => 228 | 201 => 236 | 226 => 242 | 46 => 172 | 227 => 243 | n => n, fun | 0 => 1 | 6 => 2 | n => n⟩
theorem Tryz.lays157 : Go.Proofs.Lays.n157 Tryz.prog Tryz.lays157_ren := {
  mixed := by kernel_rfl
  f157 := Tryz.func156.trans (congrArg some (by kernel_rfl))
  f199 := Tryz.func167.trans (congrArg some (by kernel_rfl))
  f229 := Tryz.func166.trans (congrArg some (by kernel_rfl))
  f261 := Tryz.func174.trans (congrArg some (by kernel_rfl))
  f311 := Tryz.func179.trans (congrArg some (by kernel_rfl))
  f312 := Tryz.func180.trans (congrArg some (by kernel_rfl))
  t0 := Tryz.underlying0
  a0 := Tryz.isAgg0
  z0 := Tryz.sizeOf0
  v0 := Tryz.zeroValue0
  t3 := Tryz.underlying3
  a3 := Tryz.isAgg3
  z3 := Tryz.sizeOf3
  v3 := Tryz.zeroValue3
  t4 := Tryz.underlying4
  a4 := Tryz.isAgg4
  z4 := Tryz.sizeOf4
  v4 := Tryz.zeroValue4
  t5 := Tryz.underlying5
  a5 := Tryz.isAgg5
  z5 := Tryz.sizeOf5
  v5 := Tryz.zeroValue5
  t9 := Tryz.underlying9
  a9 := Tryz.isAgg9
  z9 := Tryz.sizeOf9
  v9 := Tryz.zeroValue9
  t21 := Tryz.underlying21
  a21 := Tryz.isAgg21
  z21 := Tryz.sizeOf21
  v21 := Tryz.zeroValue21
  t31 := Tryz.underlying39
  a31 := Tryz.isAgg39
  z31 := Tryz.sizeOf39
  v31 := Tryz.zeroValue39
  t40 := Tryz.underlying207
  a40 := Tryz.isAgg207
  z40 := Tryz.sizeOf207
  v40 := Tryz.zeroValue207
  t46 := Tryz.underlying172
  a46 := Tryz.isAgg172
  z46 := Tryz.sizeOf172
  v46 := Tryz.zeroValue172
  t49 := Tryz.underlying231
  a49 := Tryz.isAgg231
  z49 := Tryz.sizeOf231
  v49 := Tryz.zeroValue231
  t51 := Tryz.underlying193
  a51 := Tryz.isAgg193
  z51 := Tryz.sizeOf193
  v51 := Tryz.zeroValue193
  t119 := Tryz.underlying205
  a119 := Tryz.isAgg205
  z119 := Tryz.sizeOf205
  t141 := Tryz.underlying220
  a141 := Tryz.isAgg220
  z141 := Tryz.sizeOf220
  v141 := Tryz.zeroValue220
  t152 := Tryz.underlying216
  a152 := Tryz.isAgg216
  z152 := Tryz.sizeOf216
  v152 := Tryz.zeroValue216
  t154 := Tryz.underlying218
  a154 := Tryz.isAgg218
  z154 := Tryz.sizeOf218
  v154 := Tryz.zeroValue218
  t193 := Tryz.underlying227
  a193 := Tryz.isAgg227
  z193 := Tryz.sizeOf227
  v193 := Tryz.zeroValue227
  t194 := Tryz.underlying228
  a194 := Tryz.isAgg228
  z194 := Tryz.sizeOf228
  v194 := Tryz.zeroValue228
  t196 := Tryz.underlying230
  a196 := Tryz.isAgg230
  z196 := Tryz.sizeOf230
  v196 := Tryz.zeroValue230
  t198 := Tryz.underlying233
  a198 := Tryz.isAgg233
  z198 := Tryz.sizeOf233
  v198 := Tryz.zeroValue233
  t201 := Tryz.underlying236
  a201 := Tryz.isAgg236
  z201 := Tryz.sizeOf236
  v201 := Tryz.zeroValue236
  t226 := Tryz.underlying242
  a226 := Tryz.isAgg242
  z226 := Tryz.sizeOf242
  v226 := Tryz.zeroValue242
  t227 := Tryz.underlying243
  a227 := Tryz.isAgg243
  z227 := Tryz.sizeOf243
  v227 := Tryz.zeroValue243
  g0 := by kernel_rfl
  g6 := by kernel_rfl }
open Go.RowKit Go.Lib in
theorem Tryz.strings_Fields (s : ByteArray) (w : World) (hs : s.size < 4294967281) (hascii : ∀ (j : Nat) b, s.data.toList[j]? = some b → b.toNat < 128) (htab : Lib.TabIs Tryz.prog w "strings.asciiSpace" .u8 Lib.asciiSpaceTab) :
    Calls Tryz.prog 156 #[.string s] w fun e w' =>
      e = .returned (.slice (some ⟨w.heap.size, 0, none⟩) (Lib.fields s.data.toList).length (Lib.fields s.data.toList).length) ∧ w' = w.alloc (.cells ((Lib.fields s.data.toList).map fun l => Value.string ⟨l.toArray⟩).toArray 9) := Any.strings_Fields Tryz.lays157 (by kernel_rfl) (by kernel_rfl) s w hs hascii htab
def Tryz.lays110_ren : Go.Shelf.Ren := ⟨fun | 110 => 88 | 109 => 120 | n => n, fun | 31 => 39 | 9 => 9 | 4 => 4 | 3 => 3 | 0 => 0 | n => n, fun | n => n⟩
theorem Tryz.lays110 : Go.Proofs.Lays.n110 Tryz.prog Tryz.lays110_ren := {
  mixed := by kernel_rfl
  f109 := Tryz.func120.trans (congrArg some (by kernel_rfl))
  f110 := Tryz.func88.trans (congrArg some (by kernel_rfl))
  t0 := Tryz.underlying0
  a0 := Tryz.isAgg0
  z0 := Tryz.sizeOf0
  v0 := Tryz.zeroValue0
  t3 := Tryz.underlying3
  a3 := Tryz.isAgg3
  z3 := Tryz.sizeOf3
  v3 := Tryz.zeroValue3
  t4 := Tryz.underlying4
  a4 := Tryz.isAgg4
  z4 := Tryz.sizeOf4
  v4 := Tryz.zeroValue4
  t9 := Tryz.underlying9
  a9 := Tryz.isAgg9
  z9 := Tryz.sizeOf9
  v9 := Tryz.zeroValue9
  t31 := Tryz.underlying39
  a31 := Tryz.isAgg39
  z31 := Tryz.sizeOf39
  v31 := Tryz.zeroValue39 }
open Go.Lib in
theorem Tryz.slices_Contains_string (b off n c : Nat) (zs : List ByteArray) (x : ByteArray) (w : World) (hz : n ≤ zs.length) (hbig : n ≤ 9223372036854775807) (hc : ∀ j, j < zs.length → w.cell? ⟨b, off + j, none⟩ = some (.string (zs.getD j ByteArray.empty))) :
    Calls Tryz.prog 88 #[.slice (some ⟨b, off, none⟩) n c, .string x] w fun e w' => e = .returned (.bool (Lib.containsS (zs.take n) x)) ∧ w' = w := Any.slices_Contains_string Tryz.lays110 b off n c zs x w hz hbig hc
open Go.Lib in
theorem Tryz.slices_Contains_string_empty (a : Option Addr) (c : Nat) (x : ByteArray) (w : World) :
    Calls Tryz.prog 88 #[.slice a 0 c, .string x] w fun e w' => e = .returned (.bool false) ∧ w' = w := Any.slices_Contains_string_empty Tryz.lays110 a c x w
def Tryz.laysNm226_ren : Go.Shelf.Ren := ⟨fun | 26 => 137 | 33 => 154 | 34 => 155 | 38 => 165 | n => n, fun | 24 => 39 | 9 => 9 | 3 => 3 | 4 => 4 | 40 => 172 | 0 => 0 | n => n, fun | n => n⟩
theorem Tryz.laysNm226 : Go.Proofs.Lays2.n26 Tryz.prog Tryz.laysNm226_ren := {
  mixed := by kernel_rfl
  f26 := Tryz.func137.trans (congrArg some (by kernel_rfl))
  f33 := Tryz.func154.trans (congrArg some (by kernel_rfl))
  f34 := Tryz.func155.trans (congrArg some (by kernel_rfl))
  f38 := Tryz.func165.trans (congrArg some (by kernel_rfl))
  t0 := Tryz.underlying0
  a0 := Tryz.isAgg0
  z0 := Tryz.sizeOf0
  v0 := Tryz.zeroValue0
  t3 := Tryz.underlying3
  a3 := Tryz.isAgg3
  z3 := Tryz.sizeOf3
  v3 := Tryz.zeroValue3
  t4 := Tryz.underlying4
  a4 := Tryz.isAgg4
  z4 := Tryz.sizeOf4
  v4 := Tryz.zeroValue4
  t9 := Tryz.underlying9
  a9 := Tryz.isAgg9
  z9 := Tryz.sizeOf9
  v9 := Tryz.zeroValue9
  t24 := Tryz.underlying39
  a24 := Tryz.isAgg39
  z24 := Tryz.sizeOf39
  v24 := Tryz.zeroValue39
  t40 := Tryz.underlying172
  a40 := Tryz.isAgg172
  z40 := Tryz.sizeOf172
  v40 := Tryz.zeroValue172 }
theorem Tryz.slices_BinarySearch_string (b off n c : Nat) (Sx : Nat → ByteArray) (x : ByteArray) (w : World) (hbig : n < 4611686018427387904) (hc : ∀ j, j < n → w.cell? ⟨b, off + j, none⟩ = some (.string (Sx j))) :
    Calls Tryz.prog 137 #[.slice (some ⟨b, off, none⟩) n c, .string x] w fun e w' =>
      e = .returned (.tuple #[.int .i64 (Lib.bsGo (fun t => Op.bytesLess (Sx t).toList x.toList) n 0 n : Nat), .bool (decide (Lib.bsGo (fun t => Op.bytesLess (Sx t).toList x.toList) n 0 n < n ∧ Sx (Lib.bsGo (fun t => Op.bytesLess (Sx t).toList x.toList) n 0 n) = x))]) ∧ ∃ q, w' = w.drewN q := Any2.slices_BinarySearch_string Tryz.laysNm226 b off n c Sx x w hbig hc
end Go.Proofs

/- Names and keywords. -/
namespace Go.Proofs.YtjjaknmnhhfjeaaGreatDoor
open Go.RowKit Go.Hw
set_option linter.unusedVariables false
set_option linter.unusedSimpArgs false

/-! ### names and keywords, the plain part -/
def kwL : List (List UInt8) := [[97, 110, 100], [98, 111, 111, 108], [98, 111, 117, 110, 100], [100, 101, 115, 99], [101, 108, 115, 101], [102, 97, 108, 115, 101], [105, 102], [105, 110, 116], [105, 110, 118, 97, 114, 105, 97, 110, 116], [108, 111, 99, 97, 108], [108, 111, 103], [109, 97, 120], [109, 101, 97, 115, 117, 114, 101], [109, 105, 110], [110, 101, 119], [110, 105, 108], [110, 111, 116], [111, 112], [111, 114], [112, 111, 116, 101, 110, 116, 105, 97, 108], [112, 114, 111, 99], [114, 101, 116, 117, 114, 110], [114, 117, 108, 101], [115, 99, 114, 105, 112, 116], [115, 111, 114, 116], [115, 112, 101, 99], [116, 104, 105, 115], [116, 114, 117, 101], [116, 121, 112, 101], [118, 97, 114], [119, 104, 105, 108, 101]]
def rkL : List (List UInt8) := [[116, 121, 112, 101], [118, 97, 114], [112, 114, 111, 99], [108, 111, 99, 97, 108], [109, 101, 97, 115, 117, 114, 101], [105, 110, 118, 97, 114, 105, 97, 110, 116], [112, 111, 116, 101, 110, 116, 105, 97, 108], [98, 111, 117, 110, 100], [105, 102], [101, 108, 115, 101], [119, 104, 105, 108, 101], [114, 101, 116, 117, 114, 110], [110, 101, 119], [110, 105, 108], [116, 114, 117, 101], [102, 97, 108, 115, 101], [97, 110, 100], [111, 114], [110, 111, 116], [109, 97, 120], [109, 105, 110], [108, 111, 103], [105, 110, 116], [98, 111, 111, 108], [116, 104, 105, 115], [115, 111, 114, 116], [111, 112], [114, 117, 108, 101], [115, 112, 101, 99], [100, 101, 115, 99], [115, 99, 114, 105, 112, 116]]
def kwB (s : ByteArray) : Bool := decide (s.data.toList ∈ kwL)
def ltrN (c : Nat) : Bool := (decide (97 ≤ c) && decide (c ≤ 122)) || (decide (65 ≤ c) && decide (c ≤ 90))
def digN (c : Nat) : Bool := decide (48 ≤ c) && decide (c ≤ 57)
def wrdN (c : Nat) : Bool := ltrN c || digN c || decide (c = 95)
def clsN (c : Nat) : Nat := if c = 32 ∨ c = 9 ∨ c = 13 ∨ c = 10 then 1 else if ltrN c = true then 2 else if digN c = true then 3 else if c = 95 then 4 else 0
def nmB (s : ByteArray) : Bool := decide (0 < s.size ∧ s.size ≤ 40) && (ltrN ((s.data.toList.getD 0 0).toNat) && (s.data.toList.all (fun b => wrdN b.toNat) && !kwB s))
theorem rk_mem (l : List UInt8) : l ∈ rkL ↔ l ∈ kwL := by
  have h1 : ∀ x ∈ rkL, x ∈ kwL := by decide +kernel
  have h2 : ∀ x ∈ kwL, x ∈ rkL := by decide +kernel
  exact ⟨h1 l, h2 l⟩
theorem kw_len : kwL.length = 31 := by decide +kernel
theorem bs_kw : ∀ m : Fin 31, Lib.bsGo (fun t => Op.bytesLess (kwL.getD t []) (kwL.getD m.val [])) 31 0 31 = m.val := by decide +kernel
theorem ba_list {a b : ByteArray} (h : a.data.toList = b.data.toList) : a = b := by
  cases a; cases b
  rw [ByteArray.mk.injEq]
  exact Array.toList_inj.1 h
def kwS (t : Nat) : ByteArray := ⟨(kwL.getD t []).toArray⟩
theorem kwS_list (t : Nat) : (kwS t).data.toList = kwL.getD t [] := rfl
theorem bs_is (x : ByteArray) : decide (Lib.bsGo (fun t => Op.bytesLess (kwS t).toList x.toList) 31 0 31 < 31 ∧ kwS (Lib.bsGo (fun t => Op.bytesLess (kwS t).toList x.toList) 31 0 31) = x) = kwB x := by
  have e : (fun t => Op.bytesLess (kwS t).toList x.toList) = fun t => Op.bytesLess (kwL.getD t []) x.data.toList := by
    funext t; rw [Lib.toList_data, Lib.toList_data, kwS_list]
  rw [e]
  unfold kwB
  rw [decide_eq_decide]
  constructor
  · rintro ⟨h1, h2⟩
    generalize Lib.bsGo (fun t => Op.bytesLess (kwL.getD t []) x.data.toList) 31 0 31 = m at *
    rw [← h2, kwS_list]
    have : m < kwL.length := by rw [kw_len]; exact h1
    simp [this]
  · intro h
    obtain ⟨m, hm, he⟩ := List.getElem_of_mem h
    rw [kw_len] at hm
    have h1 := bs_kw ⟨m, hm⟩
    have h2 : kwL.getD m [] = x.data.toList := by
      rw [← he, List.getD_eq_getElem?_getD, List.getElem?_eq_getElem (by rw [kw_len]; exact hm)]; rfl
    dsimp only at h1
    rw [h2] at h1
    rw [h1]
    exact ⟨hm, ba_list (by rw [kwS_list, h2])⟩
abbrev AscT (w : World) : Prop := Lib.TabIs Tryz.prog w "strings.asciiSpace" .u8 Lib.asciiSpaceTab
theorem asc_ext {w w' : World} (h : AscT w) (hb : Ext w w') : AscT w' := by
  unfold AscT Lib.TabIs World.var? at *
  cases hg : Tryz.prog.globalNamed "strings.asciiSpace" with
  | none => simp [hg] at h
  | some g =>
    simp only [hg, Option.bind_some] at h ⊢
    have hlt : g < w.heap.size := by
      rcases Nat.lt_or_ge g w.heap.size with h' | h'
      · exact h'
      · rw [Array.getElem?_eq_none h'] at h; simp at h
    rw [hb.block g hlt (fun x => x)]
    exact h
def kwO : Obj := .cells (kwL.map fun l => Value.string ⟨l.toArray⟩).toArray 9
theorem fields_kw (s : ByteArray) (w : World) (h1 : Lib.fields s.data.toList = kwL) (h2 : (s.data.toList.all fun b => decide (b.toNat < 128)) = true) (h3 : s.size < 4294967281) (htab : AscT w) :
    Calls Tryz.prog 156 #[.string s] w fun e w' => e = .returned (.slice (some ⟨w.heap.size, 0, none⟩) 31 31) ∧ w' = w.alloc kwO := by
  have h := Tryz.strings_Fields s w h3 (fun j b hb => by have := List.all_eq_true.1 h2 b (List.mem_of_getElem? hb); simpa using this) htab
  rw [h1, kw_len] at h
  exact h
theorem keywords_x (w : World) (htab : AscT w) : Calls Tryz.prog 138 #[] w fun e w' => e = .returned (.slice (some ⟨w.heap.size, 0, none⟩) 31 31) ∧ w' = w.alloc kwO := by
  have HT := Lib.hid htab
  clear htab
  go_enter Tryz.func138, Tryz.ntmps138
  go_wp2_with fail
  refine (fields_kw _ _ (by kernel_rfl) (by kernel_rfl) (by decide +kernel) HT.out).mono ?_
  rintro e w' ⟨rfl, rfl⟩
  go_wp2_with fail
  go_ret
  exact ⟨rfl, rfl⟩
theorem kw_cells (w : World) (j : Nat) (hj : j < 31) : (w.alloc kwO).cell? ⟨w.heap.size, 0 + j, none⟩ = some (.string (kwS j)) := by
  refine cellRow (t := 9) (cs := (kwL.map fun l => Value.string ⟨l.toArray⟩).toArray) (alloc0 w kwO) _ _ ?_
  have : j < kwL.length := by rw [kw_len]; exact hj
  simp [kwS, this]
theorem isKeyword_x (x : ByteArray) (w : World) (htab : AscT w) : Calls Tryz.prog 119 #[.string x] w fun e w' => e = .returned (.bool (kwB x)) ∧ Ext w w' := by
  have HK := Lib.hid (keywords_x w htab)
  have HB := Lib.hid (Tryz.slices_BinarySearch_string w.heap.size 0 31 31 kwS x (w.alloc kwO) (by decide) (fun j hj => kw_cells w j hj))
  have HS := Lib.hid (bs_is x)
  have HE : Hid (Ext w (w.alloc kwO)) := (Upd.refl _ w).alloc _
  clear htab
  go_enter Tryz.func119, Tryz.ntmps119
  go_wp2_with fail
  refine HK.out.mono ?_
  rintro e w' ⟨rfl, rfl⟩
  go_wp2_with fail
  refine HB.out.mono ?_
  rintro e w' ⟨rfl, q, rfl⟩
  rw [HS.out]
  generalize Lib.bsGo (fun t => Op.bytesLess (kwS t).toList x.toList) 31 0 31 = Y at *
  go_wp2_with fail
  go_ret
  exact ⟨rfl, HE.out.drewN' _⟩
set_option maxRecDepth 100000 in
set_option maxHeartbeats 1000000 in
theorem class_x (c : Nat) (w : World) (hc : c ≤ 255) : Calls Tryz.prog 98 #[.int .u8 c] w fun e w' => e = .returned (.int .i64 (clsN c : Nat)) ∧ w = w' := by
  by_cases h : 0 ≤ c ∧ c ≤ 8
  · obtain ⟨h1, h2⟩ := h
    have e32 : ((c : Int) == 32) = false := beq_eq_false_iff_ne.2 (by omega)
    have d32 : ¬ (c = 32) := by omega
    have e9 : ((c : Int) == 9) = false := beq_eq_false_iff_ne.2 (by omega)
    have d9 : ¬ (c = 9) := by omega
    have e13 : ((c : Int) == 13) = false := beq_eq_false_iff_ne.2 (by omega)
    have d13 : ¬ (c = 13) := by omega
    have e10 : ((c : Int) == 10) = false := beq_eq_false_iff_ne.2 (by omega)
    have d10 : ¬ (c = 10) := by omega
    have e95 : ((c : Int) == 95) = false := beq_eq_false_iff_ne.2 (by omega)
    have d95 : ¬ (c = 95) := by omega
    have g97 : ¬ (97 ≤ (c : Int)) := by omega
    have ng97 : ¬ (97 ≤ c) := by omega
    have l122 : ((c : Int) ≤ 122) := by omega
    have nl122 : (c ≤ 122) := by omega
    have g65 : ¬ (65 ≤ (c : Int)) := by omega
    have ng65 : ¬ (65 ≤ c) := by omega
    have l90 : ((c : Int) ≤ 90) := by omega
    have nl90 : (c ≤ 90) := by omega
    have g48 : ¬ (48 ≤ (c : Int)) := by omega
    have ng48 : ¬ (48 ≤ c) := by omega
    have l57 : ((c : Int) ≤ 57) := by omega
    have nl57 : (c ≤ 57) := by omega
    rw [show clsN c = 0 by { unfold clsN; simp [ltrN, digN, *] }]
    clear h1 h2 hc
    go_enter Tryz.func98, Tryz.ntmps98
    go_wp2_with fail
    go_ret
    exact ⟨rfl, rfl⟩
  by_cases h : c = 9
  · subst h
    go_enter Tryz.func98, Tryz.ntmps98
    go_wp2_with fail
    go_ret
    exact ⟨rfl, rfl⟩
  by_cases h : c = 10
  · subst h
    go_enter Tryz.func98, Tryz.ntmps98
    go_wp2_with fail
    go_ret
    exact ⟨rfl, rfl⟩
  by_cases h : 11 ≤ c ∧ c ≤ 12
  · obtain ⟨h1, h2⟩ := h
    have e32 : ((c : Int) == 32) = false := beq_eq_false_iff_ne.2 (by omega)
    have d32 : ¬ (c = 32) := by omega
    have e9 : ((c : Int) == 9) = false := beq_eq_false_iff_ne.2 (by omega)
    have d9 : ¬ (c = 9) := by omega
    have e13 : ((c : Int) == 13) = false := beq_eq_false_iff_ne.2 (by omega)
    have d13 : ¬ (c = 13) := by omega
    have e10 : ((c : Int) == 10) = false := beq_eq_false_iff_ne.2 (by omega)
    have d10 : ¬ (c = 10) := by omega
    have e95 : ((c : Int) == 95) = false := beq_eq_false_iff_ne.2 (by omega)
    have d95 : ¬ (c = 95) := by omega
    have g97 : ¬ (97 ≤ (c : Int)) := by omega
    have ng97 : ¬ (97 ≤ c) := by omega
    have l122 : ((c : Int) ≤ 122) := by omega
    have nl122 : (c ≤ 122) := by omega
    have g65 : ¬ (65 ≤ (c : Int)) := by omega
    have ng65 : ¬ (65 ≤ c) := by omega
    have l90 : ((c : Int) ≤ 90) := by omega
    have nl90 : (c ≤ 90) := by omega
    have g48 : ¬ (48 ≤ (c : Int)) := by omega
    have ng48 : ¬ (48 ≤ c) := by omega
    have l57 : ((c : Int) ≤ 57) := by omega
    have nl57 : (c ≤ 57) := by omega
    rw [show clsN c = 0 by { unfold clsN; simp [ltrN, digN, *] }]
    clear h1 h2 hc
    go_enter Tryz.func98, Tryz.ntmps98
    go_wp2_with fail
    go_ret
    exact ⟨rfl, rfl⟩
  by_cases h : c = 13
  · subst h
    go_enter Tryz.func98, Tryz.ntmps98
    go_wp2_with fail
    go_ret
    exact ⟨rfl, rfl⟩
  by_cases h : 14 ≤ c ∧ c ≤ 31
  · obtain ⟨h1, h2⟩ := h
    have e32 : ((c : Int) == 32) = false := beq_eq_false_iff_ne.2 (by omega)
    have d32 : ¬ (c = 32) := by omega
    have e9 : ((c : Int) == 9) = false := beq_eq_false_iff_ne.2 (by omega)
    have d9 : ¬ (c = 9) := by omega
    have e13 : ((c : Int) == 13) = false := beq_eq_false_iff_ne.2 (by omega)
    have d13 : ¬ (c = 13) := by omega
    have e10 : ((c : Int) == 10) = false := beq_eq_false_iff_ne.2 (by omega)
    have d10 : ¬ (c = 10) := by omega
    have e95 : ((c : Int) == 95) = false := beq_eq_false_iff_ne.2 (by omega)
    have d95 : ¬ (c = 95) := by omega
    have g97 : ¬ (97 ≤ (c : Int)) := by omega
    have ng97 : ¬ (97 ≤ c) := by omega
    have l122 : ((c : Int) ≤ 122) := by omega
    have nl122 : (c ≤ 122) := by omega
    have g65 : ¬ (65 ≤ (c : Int)) := by omega
    have ng65 : ¬ (65 ≤ c) := by omega
    have l90 : ((c : Int) ≤ 90) := by omega
    have nl90 : (c ≤ 90) := by omega
    have g48 : ¬ (48 ≤ (c : Int)) := by omega
    have ng48 : ¬ (48 ≤ c) := by omega
    have l57 : ((c : Int) ≤ 57) := by omega
    have nl57 : (c ≤ 57) := by omega
    rw [show clsN c = 0 by { unfold clsN; simp [ltrN, digN, *] }]
    clear h1 h2 hc
    go_enter Tryz.func98, Tryz.ntmps98
    go_wp2_with fail
    go_ret
    exact ⟨rfl, rfl⟩
  by_cases h : c = 32
  · subst h
    go_enter Tryz.func98, Tryz.ntmps98
    go_wp2_with fail
    go_ret
    exact ⟨rfl, rfl⟩
  by_cases h : 33 ≤ c ∧ c ≤ 47
  · obtain ⟨h1, h2⟩ := h
    have e32 : ((c : Int) == 32) = false := beq_eq_false_iff_ne.2 (by omega)
    have d32 : ¬ (c = 32) := by omega
    have e9 : ((c : Int) == 9) = false := beq_eq_false_iff_ne.2 (by omega)
    have d9 : ¬ (c = 9) := by omega
    have e13 : ((c : Int) == 13) = false := beq_eq_false_iff_ne.2 (by omega)
    have d13 : ¬ (c = 13) := by omega
    have e10 : ((c : Int) == 10) = false := beq_eq_false_iff_ne.2 (by omega)
    have d10 : ¬ (c = 10) := by omega
    have e95 : ((c : Int) == 95) = false := beq_eq_false_iff_ne.2 (by omega)
    have d95 : ¬ (c = 95) := by omega
    have g97 : ¬ (97 ≤ (c : Int)) := by omega
    have ng97 : ¬ (97 ≤ c) := by omega
    have l122 : ((c : Int) ≤ 122) := by omega
    have nl122 : (c ≤ 122) := by omega
    have g65 : ¬ (65 ≤ (c : Int)) := by omega
    have ng65 : ¬ (65 ≤ c) := by omega
    have l90 : ((c : Int) ≤ 90) := by omega
    have nl90 : (c ≤ 90) := by omega
    have g48 : ¬ (48 ≤ (c : Int)) := by omega
    have ng48 : ¬ (48 ≤ c) := by omega
    have l57 : ((c : Int) ≤ 57) := by omega
    have nl57 : (c ≤ 57) := by omega
    rw [show clsN c = 0 by { unfold clsN; simp [ltrN, digN, *] }]
    clear h1 h2 hc
    go_enter Tryz.func98, Tryz.ntmps98
    go_wp2_with fail
    go_ret
    exact ⟨rfl, rfl⟩
  by_cases h : 48 ≤ c ∧ c ≤ 57
  · obtain ⟨h1, h2⟩ := h
    have e32 : ((c : Int) == 32) = false := beq_eq_false_iff_ne.2 (by omega)
    have d32 : ¬ (c = 32) := by omega
    have e9 : ((c : Int) == 9) = false := beq_eq_false_iff_ne.2 (by omega)
    have d9 : ¬ (c = 9) := by omega
    have e13 : ((c : Int) == 13) = false := beq_eq_false_iff_ne.2 (by omega)
    have d13 : ¬ (c = 13) := by omega
    have e10 : ((c : Int) == 10) = false := beq_eq_false_iff_ne.2 (by omega)
    have d10 : ¬ (c = 10) := by omega
    have e95 : ((c : Int) == 95) = false := beq_eq_false_iff_ne.2 (by omega)
    have d95 : ¬ (c = 95) := by omega
    have g97 : ¬ (97 ≤ (c : Int)) := by omega
    have ng97 : ¬ (97 ≤ c) := by omega
    have l122 : ((c : Int) ≤ 122) := by omega
    have nl122 : (c ≤ 122) := by omega
    have g65 : ¬ (65 ≤ (c : Int)) := by omega
    have ng65 : ¬ (65 ≤ c) := by omega
    have l90 : ((c : Int) ≤ 90) := by omega
    have nl90 : (c ≤ 90) := by omega
    have g48 : (48 ≤ (c : Int)) := by omega
    have ng48 : (48 ≤ c) := by omega
    have l57 : ((c : Int) ≤ 57) := by omega
    have nl57 : (c ≤ 57) := by omega
    rw [show clsN c = 3 by { unfold clsN; simp [ltrN, digN, *] }]
    clear h1 h2 hc
    go_enter Tryz.func98, Tryz.ntmps98
    go_wp2_with fail
    go_ret
    exact ⟨rfl, rfl⟩
  by_cases h : 58 ≤ c ∧ c ≤ 64
  · obtain ⟨h1, h2⟩ := h
    have e32 : ((c : Int) == 32) = false := beq_eq_false_iff_ne.2 (by omega)
    have d32 : ¬ (c = 32) := by omega
    have e9 : ((c : Int) == 9) = false := beq_eq_false_iff_ne.2 (by omega)
    have d9 : ¬ (c = 9) := by omega
    have e13 : ((c : Int) == 13) = false := beq_eq_false_iff_ne.2 (by omega)
    have d13 : ¬ (c = 13) := by omega
    have e10 : ((c : Int) == 10) = false := beq_eq_false_iff_ne.2 (by omega)
    have d10 : ¬ (c = 10) := by omega
    have e95 : ((c : Int) == 95) = false := beq_eq_false_iff_ne.2 (by omega)
    have d95 : ¬ (c = 95) := by omega
    have g97 : ¬ (97 ≤ (c : Int)) := by omega
    have ng97 : ¬ (97 ≤ c) := by omega
    have l122 : ((c : Int) ≤ 122) := by omega
    have nl122 : (c ≤ 122) := by omega
    have g65 : ¬ (65 ≤ (c : Int)) := by omega
    have ng65 : ¬ (65 ≤ c) := by omega
    have l90 : ((c : Int) ≤ 90) := by omega
    have nl90 : (c ≤ 90) := by omega
    have g48 : (48 ≤ (c : Int)) := by omega
    have ng48 : (48 ≤ c) := by omega
    have l57 : ¬ ((c : Int) ≤ 57) := by omega
    have nl57 : ¬ (c ≤ 57) := by omega
    rw [show clsN c = 0 by { unfold clsN; simp [ltrN, digN, *] }]
    clear h1 h2 hc
    go_enter Tryz.func98, Tryz.ntmps98
    go_wp2_with fail
    go_ret
    exact ⟨rfl, rfl⟩
  by_cases h : 65 ≤ c ∧ c ≤ 90
  · obtain ⟨h1, h2⟩ := h
    have e32 : ((c : Int) == 32) = false := beq_eq_false_iff_ne.2 (by omega)
    have d32 : ¬ (c = 32) := by omega
    have e9 : ((c : Int) == 9) = false := beq_eq_false_iff_ne.2 (by omega)
    have d9 : ¬ (c = 9) := by omega
    have e13 : ((c : Int) == 13) = false := beq_eq_false_iff_ne.2 (by omega)
    have d13 : ¬ (c = 13) := by omega
    have e10 : ((c : Int) == 10) = false := beq_eq_false_iff_ne.2 (by omega)
    have d10 : ¬ (c = 10) := by omega
    have e95 : ((c : Int) == 95) = false := beq_eq_false_iff_ne.2 (by omega)
    have d95 : ¬ (c = 95) := by omega
    have g97 : ¬ (97 ≤ (c : Int)) := by omega
    have ng97 : ¬ (97 ≤ c) := by omega
    have l122 : ((c : Int) ≤ 122) := by omega
    have nl122 : (c ≤ 122) := by omega
    have g65 : (65 ≤ (c : Int)) := by omega
    have ng65 : (65 ≤ c) := by omega
    have l90 : ((c : Int) ≤ 90) := by omega
    have nl90 : (c ≤ 90) := by omega
    have g48 : (48 ≤ (c : Int)) := by omega
    have ng48 : (48 ≤ c) := by omega
    have l57 : ¬ ((c : Int) ≤ 57) := by omega
    have nl57 : ¬ (c ≤ 57) := by omega
    rw [show clsN c = 2 by { unfold clsN; simp [ltrN, digN, *] }]
    clear h1 h2 hc
    go_enter Tryz.func98, Tryz.ntmps98
    go_wp2_with fail
    go_ret
    exact ⟨rfl, rfl⟩
  by_cases h : 91 ≤ c ∧ c ≤ 94
  · obtain ⟨h1, h2⟩ := h
    have e32 : ((c : Int) == 32) = false := beq_eq_false_iff_ne.2 (by omega)
    have d32 : ¬ (c = 32) := by omega
    have e9 : ((c : Int) == 9) = false := beq_eq_false_iff_ne.2 (by omega)
    have d9 : ¬ (c = 9) := by omega
    have e13 : ((c : Int) == 13) = false := beq_eq_false_iff_ne.2 (by omega)
    have d13 : ¬ (c = 13) := by omega
    have e10 : ((c : Int) == 10) = false := beq_eq_false_iff_ne.2 (by omega)
    have d10 : ¬ (c = 10) := by omega
    have e95 : ((c : Int) == 95) = false := beq_eq_false_iff_ne.2 (by omega)
    have d95 : ¬ (c = 95) := by omega
    have g97 : ¬ (97 ≤ (c : Int)) := by omega
    have ng97 : ¬ (97 ≤ c) := by omega
    have l122 : ((c : Int) ≤ 122) := by omega
    have nl122 : (c ≤ 122) := by omega
    have g65 : (65 ≤ (c : Int)) := by omega
    have ng65 : (65 ≤ c) := by omega
    have l90 : ¬ ((c : Int) ≤ 90) := by omega
    have nl90 : ¬ (c ≤ 90) := by omega
    have g48 : (48 ≤ (c : Int)) := by omega
    have ng48 : (48 ≤ c) := by omega
    have l57 : ¬ ((c : Int) ≤ 57) := by omega
    have nl57 : ¬ (c ≤ 57) := by omega
    rw [show clsN c = 0 by { unfold clsN; simp [ltrN, digN, *] }]
    clear h1 h2 hc
    go_enter Tryz.func98, Tryz.ntmps98
    go_wp2_with fail
    go_ret
    exact ⟨rfl, rfl⟩
  by_cases h : c = 95
  · subst h
    go_enter Tryz.func98, Tryz.ntmps98
    go_wp2_with fail
    go_ret
    exact ⟨rfl, rfl⟩
  by_cases h : c = 96
  · subst h
    go_enter Tryz.func98, Tryz.ntmps98
    go_wp2_with fail
    go_ret
    exact ⟨rfl, rfl⟩
  by_cases h : 97 ≤ c ∧ c ≤ 122
  · obtain ⟨h1, h2⟩ := h
    have e32 : ((c : Int) == 32) = false := beq_eq_false_iff_ne.2 (by omega)
    have d32 : ¬ (c = 32) := by omega
    have e9 : ((c : Int) == 9) = false := beq_eq_false_iff_ne.2 (by omega)
    have d9 : ¬ (c = 9) := by omega
    have e13 : ((c : Int) == 13) = false := beq_eq_false_iff_ne.2 (by omega)
    have d13 : ¬ (c = 13) := by omega
    have e10 : ((c : Int) == 10) = false := beq_eq_false_iff_ne.2 (by omega)
    have d10 : ¬ (c = 10) := by omega
    have e95 : ((c : Int) == 95) = false := beq_eq_false_iff_ne.2 (by omega)
    have d95 : ¬ (c = 95) := by omega
    have g97 : (97 ≤ (c : Int)) := by omega
    have ng97 : (97 ≤ c) := by omega
    have l122 : ((c : Int) ≤ 122) := by omega
    have nl122 : (c ≤ 122) := by omega
    have g65 : (65 ≤ (c : Int)) := by omega
    have ng65 : (65 ≤ c) := by omega
    have l90 : ¬ ((c : Int) ≤ 90) := by omega
    have nl90 : ¬ (c ≤ 90) := by omega
    have g48 : (48 ≤ (c : Int)) := by omega
    have ng48 : (48 ≤ c) := by omega
    have l57 : ¬ ((c : Int) ≤ 57) := by omega
    have nl57 : ¬ (c ≤ 57) := by omega
    rw [show clsN c = 2 by { unfold clsN; simp [ltrN, digN, *] }]
    clear h1 h2 hc
    go_enter Tryz.func98, Tryz.ntmps98
    go_wp2_with fail
    go_ret
    exact ⟨rfl, rfl⟩
  by_cases h : 123 ≤ c ∧ c ≤ 255
  · obtain ⟨h1, h2⟩ := h
    have e32 : ((c : Int) == 32) = false := beq_eq_false_iff_ne.2 (by omega)
    have d32 : ¬ (c = 32) := by omega
    have e9 : ((c : Int) == 9) = false := beq_eq_false_iff_ne.2 (by omega)
    have d9 : ¬ (c = 9) := by omega
    have e13 : ((c : Int) == 13) = false := beq_eq_false_iff_ne.2 (by omega)
    have d13 : ¬ (c = 13) := by omega
    have e10 : ((c : Int) == 10) = false := beq_eq_false_iff_ne.2 (by omega)
    have d10 : ¬ (c = 10) := by omega
    have e95 : ((c : Int) == 95) = false := beq_eq_false_iff_ne.2 (by omega)
    have d95 : ¬ (c = 95) := by omega
    have g97 : (97 ≤ (c : Int)) := by omega
    have ng97 : (97 ≤ c) := by omega
    have l122 : ¬ ((c : Int) ≤ 122) := by omega
    have nl122 : ¬ (c ≤ 122) := by omega
    have g65 : (65 ≤ (c : Int)) := by omega
    have ng65 : (65 ≤ c) := by omega
    have l90 : ¬ ((c : Int) ≤ 90) := by omega
    have nl90 : ¬ (c ≤ 90) := by omega
    have g48 : (48 ≤ (c : Int)) := by omega
    have ng48 : (48 ≤ c) := by omega
    have l57 : ¬ ((c : Int) ≤ 57) := by omega
    have nl57 : ¬ (c ≤ 57) := by omega
    rw [show clsN c = 0 by { unfold clsN; simp [ltrN, digN, *] }]
    clear h1 h2 hc
    go_enter Tryz.func98, Tryz.ntmps98
    go_wp2_with fail
    go_ret
    exact ⟨rfl, rfl⟩
  omega

set_option maxHeartbeats 1000000 in
theorem letter_x (c : Nat) (w : World) (hc : c ≤ 255) : Calls Tryz.prog 109 #[.int .u8 c] w fun e w' => e = .returned (.bool (ltrN c)) ∧ w = w' := by
  by_cases h : 0 ≤ c ∧ c ≤ 8
  · obtain ⟨h1, h2⟩ := h
    have g97 : ¬ (97 ≤ (c : Int)) := by omega
    have ng97 : ¬ (97 ≤ c) := by omega
    have l122 : ((c : Int) ≤ 122) := by omega
    have nl122 : (c ≤ 122) := by omega
    have g65 : ¬ (65 ≤ (c : Int)) := by omega
    have ng65 : ¬ (65 ≤ c) := by omega
    have l90 : ((c : Int) ≤ 90) := by omega
    have nl90 : (c ≤ 90) := by omega
    rw [show ltrN c = false by { unfold ltrN; simp [*] }]
    clear h1 h2 hc
    go_enter Tryz.func109, Tryz.ntmps109
    go_wp2_with fail
    go_ret
    exact ⟨rfl, rfl⟩
  by_cases h : c = 9
  · subst h
    go_enter Tryz.func109, Tryz.ntmps109
    go_wp2_with fail
    go_ret
    exact ⟨rfl, rfl⟩
  by_cases h : c = 10
  · subst h
    go_enter Tryz.func109, Tryz.ntmps109
    go_wp2_with fail
    go_ret
    exact ⟨rfl, rfl⟩
  by_cases h : 11 ≤ c ∧ c ≤ 12
  · obtain ⟨h1, h2⟩ := h
    have g97 : ¬ (97 ≤ (c : Int)) := by omega
    have ng97 : ¬ (97 ≤ c) := by omega
    have l122 : ((c : Int) ≤ 122) := by omega
    have nl122 : (c ≤ 122) := by omega
    have g65 : ¬ (65 ≤ (c : Int)) := by omega
    have ng65 : ¬ (65 ≤ c) := by omega
    have l90 : ((c : Int) ≤ 90) := by omega
    have nl90 : (c ≤ 90) := by omega
    rw [show ltrN c = false by { unfold ltrN; simp [*] }]
    clear h1 h2 hc
    go_enter Tryz.func109, Tryz.ntmps109
    go_wp2_with fail
    go_ret
    exact ⟨rfl, rfl⟩
  by_cases h : c = 13
  · subst h
    go_enter Tryz.func109, Tryz.ntmps109
    go_wp2_with fail
    go_ret
    exact ⟨rfl, rfl⟩
  by_cases h : 14 ≤ c ∧ c ≤ 31
  · obtain ⟨h1, h2⟩ := h
    have g97 : ¬ (97 ≤ (c : Int)) := by omega
    have ng97 : ¬ (97 ≤ c) := by omega
    have l122 : ((c : Int) ≤ 122) := by omega
    have nl122 : (c ≤ 122) := by omega
    have g65 : ¬ (65 ≤ (c : Int)) := by omega
    have ng65 : ¬ (65 ≤ c) := by omega
    have l90 : ((c : Int) ≤ 90) := by omega
    have nl90 : (c ≤ 90) := by omega
    rw [show ltrN c = false by { unfold ltrN; simp [*] }]
    clear h1 h2 hc
    go_enter Tryz.func109, Tryz.ntmps109
    go_wp2_with fail
    go_ret
    exact ⟨rfl, rfl⟩
  by_cases h : c = 32
  · subst h
    go_enter Tryz.func109, Tryz.ntmps109
    go_wp2_with fail
    go_ret
    exact ⟨rfl, rfl⟩
  by_cases h : 33 ≤ c ∧ c ≤ 47
  · obtain ⟨h1, h2⟩ := h
    have g97 : ¬ (97 ≤ (c : Int)) := by omega
    have ng97 : ¬ (97 ≤ c) := by omega
    have l122 : ((c : Int) ≤ 122) := by omega
    have nl122 : (c ≤ 122) := by omega
    have g65 : ¬ (65 ≤ (c : Int)) := by omega
    have ng65 : ¬ (65 ≤ c) := by omega
    have l90 : ((c : Int) ≤ 90) := by omega
    have nl90 : (c ≤ 90) := by omega
    rw [show ltrN c = false by { unfold ltrN; simp [*] }]
    clear h1 h2 hc
    go_enter Tryz.func109, Tryz.ntmps109
    go_wp2_with fail
    go_ret
    exact ⟨rfl, rfl⟩
  by_cases h : 48 ≤ c ∧ c ≤ 57
  · obtain ⟨h1, h2⟩ := h
    have g97 : ¬ (97 ≤ (c : Int)) := by omega
    have ng97 : ¬ (97 ≤ c) := by omega
    have l122 : ((c : Int) ≤ 122) := by omega
    have nl122 : (c ≤ 122) := by omega
    have g65 : ¬ (65 ≤ (c : Int)) := by omega
    have ng65 : ¬ (65 ≤ c) := by omega
    have l90 : ((c : Int) ≤ 90) := by omega
    have nl90 : (c ≤ 90) := by omega
    rw [show ltrN c = false by { unfold ltrN; simp [*] }]
    clear h1 h2 hc
    go_enter Tryz.func109, Tryz.ntmps109
    go_wp2_with fail
    go_ret
    exact ⟨rfl, rfl⟩
  by_cases h : 58 ≤ c ∧ c ≤ 64
  · obtain ⟨h1, h2⟩ := h
    have g97 : ¬ (97 ≤ (c : Int)) := by omega
    have ng97 : ¬ (97 ≤ c) := by omega
    have l122 : ((c : Int) ≤ 122) := by omega
    have nl122 : (c ≤ 122) := by omega
    have g65 : ¬ (65 ≤ (c : Int)) := by omega
    have ng65 : ¬ (65 ≤ c) := by omega
    have l90 : ((c : Int) ≤ 90) := by omega
    have nl90 : (c ≤ 90) := by omega
    rw [show ltrN c = false by { unfold ltrN; simp [*] }]
    clear h1 h2 hc
    go_enter Tryz.func109, Tryz.ntmps109
    go_wp2_with fail
    go_ret
    exact ⟨rfl, rfl⟩
  by_cases h : 65 ≤ c ∧ c ≤ 90
  · obtain ⟨h1, h2⟩ := h
    have g97 : ¬ (97 ≤ (c : Int)) := by omega
    have ng97 : ¬ (97 ≤ c) := by omega
    have l122 : ((c : Int) ≤ 122) := by omega
    have nl122 : (c ≤ 122) := by omega
    have g65 : (65 ≤ (c : Int)) := by omega
    have ng65 : (65 ≤ c) := by omega
    have l90 : ((c : Int) ≤ 90) := by omega
    have nl90 : (c ≤ 90) := by omega
    rw [show ltrN c = true by { unfold ltrN; simp [*] }]
    clear h1 h2 hc
    go_enter Tryz.func109, Tryz.ntmps109
    go_wp2_with fail
    go_ret
    exact ⟨rfl, rfl⟩
  by_cases h : 91 ≤ c ∧ c ≤ 94
  · obtain ⟨h1, h2⟩ := h
    have g97 : ¬ (97 ≤ (c : Int)) := by omega
    have ng97 : ¬ (97 ≤ c) := by omega
    have l122 : ((c : Int) ≤ 122) := by omega
    have nl122 : (c ≤ 122) := by omega
    have g65 : (65 ≤ (c : Int)) := by omega
    have ng65 : (65 ≤ c) := by omega
    have l90 : ¬ ((c : Int) ≤ 90) := by omega
    have nl90 : ¬ (c ≤ 90) := by omega
    rw [show ltrN c = false by { unfold ltrN; simp [*] }]
    clear h1 h2 hc
    go_enter Tryz.func109, Tryz.ntmps109
    go_wp2_with fail
    go_ret
    exact ⟨rfl, rfl⟩
  by_cases h : c = 95
  · subst h
    go_enter Tryz.func109, Tryz.ntmps109
    go_wp2_with fail
    go_ret
    exact ⟨rfl, rfl⟩
  by_cases h : c = 96
  · subst h
    go_enter Tryz.func109, Tryz.ntmps109
    go_wp2_with fail
    go_ret
    exact ⟨rfl, rfl⟩
  by_cases h : 97 ≤ c ∧ c ≤ 122
  · obtain ⟨h1, h2⟩ := h
    have g97 : (97 ≤ (c : Int)) := by omega
    have ng97 : (97 ≤ c) := by omega
    have l122 : ((c : Int) ≤ 122) := by omega
    have nl122 : (c ≤ 122) := by omega
    have g65 : (65 ≤ (c : Int)) := by omega
    have ng65 : (65 ≤ c) := by omega
    have l90 : ¬ ((c : Int) ≤ 90) := by omega
    have nl90 : ¬ (c ≤ 90) := by omega
    rw [show ltrN c = true by { unfold ltrN; simp [*] }]
    clear h1 h2 hc
    go_enter Tryz.func109, Tryz.ntmps109
    go_wp2_with fail
    go_ret
    exact ⟨rfl, rfl⟩
  by_cases h : 123 ≤ c ∧ c ≤ 255
  · obtain ⟨h1, h2⟩ := h
    have g97 : (97 ≤ (c : Int)) := by omega
    have ng97 : (97 ≤ c) := by omega
    have l122 : ¬ ((c : Int) ≤ 122) := by omega
    have nl122 : ¬ (c ≤ 122) := by omega
    have g65 : (65 ≤ (c : Int)) := by omega
    have ng65 : (65 ≤ c) := by omega
    have l90 : ¬ ((c : Int) ≤ 90) := by omega
    have nl90 : ¬ (c ≤ 90) := by omega
    rw [show ltrN c = false by { unfold ltrN; simp [*] }]
    clear h1 h2 hc
    go_enter Tryz.func109, Tryz.ntmps109
    go_wp2_with fail
    go_ret
    exact ⟨rfl, rfl⟩
  omega

set_option maxHeartbeats 1000000 in
theorem digit_x (c : Nat) (w : World) (hc : c ≤ 255) : Calls Tryz.prog 127 #[.int .u8 c] w fun e w' => e = .returned (.bool (digN c)) ∧ w = w' := by
  by_cases h : 0 ≤ c ∧ c ≤ 8
  · obtain ⟨h1, h2⟩ := h
    have g48 : ¬ (48 ≤ (c : Int)) := by omega
    have ng48 : ¬ (48 ≤ c) := by omega
    have l57 : ((c : Int) ≤ 57) := by omega
    have nl57 : (c ≤ 57) := by omega
    rw [show digN c = false by { unfold digN; simp [*] }]
    clear h1 h2 hc
    go_enter Tryz.func127, Tryz.ntmps127
    go_wp2_with fail
    go_ret
    exact ⟨rfl, rfl⟩
  by_cases h : c = 9
  · subst h
    go_enter Tryz.func127, Tryz.ntmps127
    go_wp2_with fail
    go_ret
    exact ⟨rfl, rfl⟩
  by_cases h : c = 10
  · subst h
    go_enter Tryz.func127, Tryz.ntmps127
    go_wp2_with fail
    go_ret
    exact ⟨rfl, rfl⟩
  by_cases h : 11 ≤ c ∧ c ≤ 12
  · obtain ⟨h1, h2⟩ := h
    have g48 : ¬ (48 ≤ (c : Int)) := by omega
    have ng48 : ¬ (48 ≤ c) := by omega
    have l57 : ((c : Int) ≤ 57) := by omega
    have nl57 : (c ≤ 57) := by omega
    rw [show digN c = false by { unfold digN; simp [*] }]
    clear h1 h2 hc
    go_enter Tryz.func127, Tryz.ntmps127
    go_wp2_with fail
    go_ret
    exact ⟨rfl, rfl⟩
  by_cases h : c = 13
  · subst h
    go_enter Tryz.func127, Tryz.ntmps127
    go_wp2_with fail
    go_ret
    exact ⟨rfl, rfl⟩
  by_cases h : 14 ≤ c ∧ c ≤ 31
  · obtain ⟨h1, h2⟩ := h
    have g48 : ¬ (48 ≤ (c : Int)) := by omega
    have ng48 : ¬ (48 ≤ c) := by omega
    have l57 : ((c : Int) ≤ 57) := by omega
    have nl57 : (c ≤ 57) := by omega
    rw [show digN c = false by { unfold digN; simp [*] }]
    clear h1 h2 hc
    go_enter Tryz.func127, Tryz.ntmps127
    go_wp2_with fail
    go_ret
    exact ⟨rfl, rfl⟩
  by_cases h : c = 32
  · subst h
    go_enter Tryz.func127, Tryz.ntmps127
    go_wp2_with fail
    go_ret
    exact ⟨rfl, rfl⟩
  by_cases h : 33 ≤ c ∧ c ≤ 47
  · obtain ⟨h1, h2⟩ := h
    have g48 : ¬ (48 ≤ (c : Int)) := by omega
    have ng48 : ¬ (48 ≤ c) := by omega
    have l57 : ((c : Int) ≤ 57) := by omega
    have nl57 : (c ≤ 57) := by omega
    rw [show digN c = false by { unfold digN; simp [*] }]
    clear h1 h2 hc
    go_enter Tryz.func127, Tryz.ntmps127
    go_wp2_with fail
    go_ret
    exact ⟨rfl, rfl⟩
  by_cases h : 48 ≤ c ∧ c ≤ 57
  · obtain ⟨h1, h2⟩ := h
    have g48 : (48 ≤ (c : Int)) := by omega
    have ng48 : (48 ≤ c) := by omega
    have l57 : ((c : Int) ≤ 57) := by omega
    have nl57 : (c ≤ 57) := by omega
    rw [show digN c = true by { unfold digN; simp [*] }]
    clear h1 h2 hc
    go_enter Tryz.func127, Tryz.ntmps127
    go_wp2_with fail
    go_ret
    exact ⟨rfl, rfl⟩
  by_cases h : 58 ≤ c ∧ c ≤ 64
  · obtain ⟨h1, h2⟩ := h
    have g48 : (48 ≤ (c : Int)) := by omega
    have ng48 : (48 ≤ c) := by omega
    have l57 : ¬ ((c : Int) ≤ 57) := by omega
    have nl57 : ¬ (c ≤ 57) := by omega
    rw [show digN c = false by { unfold digN; simp [*] }]
    clear h1 h2 hc
    go_enter Tryz.func127, Tryz.ntmps127
    go_wp2_with fail
    go_ret
    exact ⟨rfl, rfl⟩
  by_cases h : 65 ≤ c ∧ c ≤ 90
  · obtain ⟨h1, h2⟩ := h
    have g48 : (48 ≤ (c : Int)) := by omega
    have ng48 : (48 ≤ c) := by omega
    have l57 : ¬ ((c : Int) ≤ 57) := by omega
    have nl57 : ¬ (c ≤ 57) := by omega
    rw [show digN c = false by { unfold digN; simp [*] }]
    clear h1 h2 hc
    go_enter Tryz.func127, Tryz.ntmps127
    go_wp2_with fail
    go_ret
    exact ⟨rfl, rfl⟩
  by_cases h : 91 ≤ c ∧ c ≤ 94
  · obtain ⟨h1, h2⟩ := h
    have g48 : (48 ≤ (c : Int)) := by omega
    have ng48 : (48 ≤ c) := by omega
    have l57 : ¬ ((c : Int) ≤ 57) := by omega
    have nl57 : ¬ (c ≤ 57) := by omega
    rw [show digN c = false by { unfold digN; simp [*] }]
    clear h1 h2 hc
    go_enter Tryz.func127, Tryz.ntmps127
    go_wp2_with fail
    go_ret
    exact ⟨rfl, rfl⟩
  by_cases h : c = 95
  · subst h
    go_enter Tryz.func127, Tryz.ntmps127
    go_wp2_with fail
    go_ret
    exact ⟨rfl, rfl⟩
  by_cases h : c = 96
  · subst h
    go_enter Tryz.func127, Tryz.ntmps127
    go_wp2_with fail
    go_ret
    exact ⟨rfl, rfl⟩
  by_cases h : 97 ≤ c ∧ c ≤ 122
  · obtain ⟨h1, h2⟩ := h
    have g48 : (48 ≤ (c : Int)) := by omega
    have ng48 : (48 ≤ c) := by omega
    have l57 : ¬ ((c : Int) ≤ 57) := by omega
    have nl57 : ¬ (c ≤ 57) := by omega
    rw [show digN c = false by { unfold digN; simp [*] }]
    clear h1 h2 hc
    go_enter Tryz.func127, Tryz.ntmps127
    go_wp2_with fail
    go_ret
    exact ⟨rfl, rfl⟩
  by_cases h : 123 ≤ c ∧ c ≤ 255
  · obtain ⟨h1, h2⟩ := h
    have g48 : (48 ≤ (c : Int)) := by omega
    have ng48 : (48 ≤ c) := by omega
    have l57 : ¬ ((c : Int) ≤ 57) := by omega
    have nl57 : ¬ (c ≤ 57) := by omega
    rw [show digN c = false by { unfold digN; simp [*] }]
    clear h1 h2 hc
    go_enter Tryz.func127, Tryz.ntmps127
    go_wp2_with fail
    go_ret
    exact ⟨rfl, rfl⟩
  omega

set_option maxHeartbeats 1000000 in
theorem word_x (c : Nat) (w : World) (hc : c ≤ 255) : Calls Tryz.prog 102 #[.int .u8 c] w fun e w' => e = .returned (.bool (wrdN c)) ∧ w = w' := by
  have C1 := Lib.hid (letter_x c w hc)
  have C2 := Lib.hid (digit_x c w hc)
  unfold wrdN
  cases h1 : ltrN c with
  | true =>
    rw [h1] at C1
    clear h1 C2
    go_enter Tryz.func102, Tryz.ntmps102
    go_wp2_with fail
    refine C1.out.mono ?_
    rintro e w' ⟨rfl, rfl⟩
    go_wp2_with fail
    go_ret
    exact ⟨rfl, rfl⟩
  | false =>
    rw [h1] at C1
    clear h1
    cases h2 : digN c with
    | true =>
      rw [h2] at C2
      clear h2
      go_enter Tryz.func102, Tryz.ntmps102
      go_wp2_with fail
      refine C1.out.mono ?_
      rintro e w' ⟨rfl, rfl⟩
      go_wp2_with fail
      refine C2.out.mono ?_
      rintro e w' ⟨rfl, rfl⟩
      go_wp2_with fail
      go_ret
      exact ⟨rfl, rfl⟩
    | false =>
      rw [h2] at C2
      clear h2
      have e95 : ((c : Int) == 95) = decide (c = 95) := by
        by_cases h : c = 95
        · rw [decide_eq_true h, h]; rfl
        · rw [decide_eq_false h]; exact beq_eq_false_iff_ne.2 (by omega)
      have HB : Hid (((c : Int) == 95) = decide (c = 95)) := e95
      clear e95
      go_enter Tryz.func102, Tryz.ntmps102
      go_wp2_with fail
      refine C1.out.mono ?_
      rintro e w' ⟨rfl, rfl⟩
      go_wp2_with fail
      refine C2.out.mono ?_
      rintro e w' ⟨rfl, rfl⟩
      go_wp2_with fail
      go_ret
      first | exact ⟨rfl, rfl⟩ | exact ⟨by rw [HB.out]; rfl, rfl⟩ | (refine ⟨?_, rfl⟩; simp [← HB.out])

def rkS (t : Nat) : ByteArray := ⟨(rkL.getD t []).toArray⟩
def rkO : Obj := .cells (rkL.map fun l => Value.string ⟨l.toArray⟩).toArray 9
theorem rk_len : rkL.length = 31 := by decide +kernel
theorem rk_cells (w : World) (j : Nat) (hj : j < 31) : (w.alloc rkO).cell? ⟨w.heap.size, 0 + j, none⟩ = some (.string (rkS j)) := by
  refine cellRow (t := 9) (cs := (rkL.map fun l => Value.string ⟨l.toArray⟩).toArray) (alloc0 w rkO) _ _ ?_
  have : j < rkL.length := by rw [rk_len]; exact hj
  simp [rkS, this]
theorem rkeywords_x (w : World) : Calls Tryz.prog 134 #[] w fun e w' => e = .returned (.slice (some ⟨w.heap.size, 0, none⟩) 31 31) ∧ w' = w.alloc rkO := by
  go_enter Tryz.func134, Tryz.ntmps134
  go_wp2_with fail
  go_ret
  exact ⟨rfl, rfl⟩
def hasB (n : Nat) (S : Nat → ByteArray) (x : ByteArray) : Bool := decide (∃ j, j < n ∧ S j = x)
set_option maxHeartbeats 1000000 in
theorem has_x (g off n cap : Nat) (S : Nat → ByteArray) (x : ByteArray) (w : World) (hn : n ≤ 1000000) (hcap : n ≤ cap) (hc : ∀ j, j < n → w.cell? ⟨g, off + j, none⟩ = some (.string (S j))) :
    Calls Tryz.prog 133 #[.slice (some ⟨g, off, none⟩) n cap, .string x] w fun e w' => e = .returned (.bool (hasB n S x)) ∧ w = w' := by
  obtain ⟨R, hR⟩ : ∃ R, decide (∃ j, j < n ∧ S j = x) = R := ⟨_, rfl⟩
  unfold hasB
  rw [hR]
  have HR := Lib.hid hR
  have HC := Lib.hid hc
  clear hR hc
  go_enter Tryz.func133, Tryz.ntmps133
  go_wp2_with fail
  go_loopg [5] n (fun gk i wr => ∃ j : Nat, i = .int .i64 j ∧ gk = n - j ∧ j ≤ n ∧ Hid (∀ i, i < j → S i ≠ x) ∧ wr = w)
  case atStart => exact ⟨0, rfl, rfl, Nat.zero_le _, fun i h => absurd h (Nat.not_lt_zero _), rfl⟩
  case round =>
    obtain ⟨j, rfl, rfl, hj, Hj, rfl⟩ := hrel
    by_cases hlt : j < n
    · have c0 := HC.out j hlt
      have i0' : (0 : Int) ≤ (j : Int) := by omega
      have i1' : (j : Int) < (n : Int) := by omega
      by_cases he : S j = x
      · have t1 := (Lib.bytes_beq_iff _ _).2 he
        obtain rfl : R = true := by rw [← HR.out]; exact decide_eq_true ⟨j, hlt, he⟩
        clear he HR
        generalize S j = X at *
        go_wp2_with fail
        go_ret
        exact ⟨rfl, rfl⟩
      · have t1 := (Lib.bytes_beq_false_iff _ _).2 he
        have HJ2 : Hid (∀ i, i < j + 1 → S i ≠ x) := fun i hi => by
          by_cases e : i = j
          · subst e; exact he
          · exact Hj.out i (by omega)
        clear he
        go_wp2_with fail
        go_roundg (n - (j + 1))
        case measure => omega
        case rel => exact ⟨j + 1, by go_num, rfl, by omega, HJ2, rfl⟩
    · obtain rfl : R = false := by
        rw [← HR.out]; exact decide_eq_false (fun ⟨i, h1, h2⟩ => Hj.out i (by omega) h2)
      clear HR
      go_wp2_with fail
      go_ret
      exact ⟨rfl, rfl⟩
theorem rk_is (x : ByteArray) : hasB 31 rkS x = kwB x := by
  unfold kwB hasB
  rw [decide_eq_decide, ← rk_mem]
  constructor
  · rintro ⟨j, hj, rfl⟩
    have : j < rkL.length := by rw [rk_len]; exact hj
    simp [rkS, this]
  · intro h
    obtain ⟨m, hm, he⟩ := List.getElem_of_mem h
    refine ⟨m, by rw [← rk_len]; exact hm, ba_list ?_⟩
    rw [← he]
    simp [rkS, hm]
theorem rIsKeyword_x (x : ByteArray) (w : World) : Calls Tryz.prog 110 #[.string x] w fun e w' => e = .returned (.bool (kwB x)) ∧ Ext w w' := by
  have HK := Lib.hid (rkeywords_x w)
  have HB := Lib.hid (has_x w.heap.size 0 31 31 rkS x (w.alloc rkO) (by decide) (Nat.le_refl _) (fun j hj => rk_cells w j hj))
  rw [rk_is] at HB
  have HE : Hid (Ext w (w.alloc rkO)) := (Upd.refl _ w).alloc _
  go_enter Tryz.func110, Tryz.ntmps110
  go_wp2_with fail
  refine HK.out.mono ?_
  rintro e w' ⟨rfl, rfl⟩
  go_wp2_with fail
  refine HB.out.mono ?_
  rintro e w' ⟨rfl, rfl⟩
  go_wp2_with fail
  go_ret
  exact ⟨rfl, HE.out⟩
theorem at_list (s : ByteArray) (k : Nat) (h : k < s.size) : s.data.toList.getD k 0 = s[k]'h := by
  have hl : k < s.data.toList.length := h
  rw [List.getD_eq_getElem?_getD, List.getElem?_eq_getElem hl]; rfl
theorem all_take (s : ByteArray) (k : Nat) (h : k < s.size) (p : UInt8 → Bool) : (s.data.toList.take (k + 1)).all p = ((s.data.toList.take k).all p && p (s[k]'h)) := by
  rw [List.take_succ_eq_append_getElem (by exact h), List.all_append]
  simp; rfl
theorem all_stop (s : ByteArray) (k : Nat) (h : k < s.size) (p : UInt8 → Bool) (hp : p (s[k]'h) = false) : s.data.toList.all p = false := by
  rw [List.all_eq_false]
  have hl : k < s.data.toList.length := h
  have hm : s.data.toList[k]'hl ∈ s.data.toList := List.getElem_mem hl
  exact ⟨s[k]'h, hm, by rw [hp]; decide⟩
theorem cls_wrd (c : Nat) : wrdN c = decide (2 ≤ clsN c) := by
  unfold wrdN clsN
  by_cases h1 : c = 32 ∨ c = 9 ∨ c = 13 ∨ c = 10
  · rw [if_pos h1]
    rcases h1 with rfl | rfl | rfl | rfl <;> rfl
  · rw [if_neg h1]
    cases ltrN c with
    | true => rfl
    | false =>
      cases digN c with
      | true => rfl
      | false => by_cases h : c = 95 <;> simp [h]
theorem cls_ltr (c : Nat) : ltrN c = decide (clsN c = 2) := by
  unfold clsN
  by_cases h1 : c = 32 ∨ c = 9 ∨ c = 13 ∨ c = 10
  · rw [if_pos h1]
    rcases h1 with rfl | rfl | rfl | rfl <;> rfl
  · rw [if_neg h1]
    cases ltrN c with
    | true => rfl
    | false =>
      cases digN c with
      | true => rfl
      | false => by_cases h : c = 95 <;> simp [h]

end Go.Proofs.YtjjaknmnhhfjeaaGreatDoor

/- IsName. -/
namespace Go.Proofs.YtjjaknmnhhfjeaaGreatDoor
open Go.RowKit Go.Hw
set_option linter.unusedVariables false
set_option linter.unusedSimpArgs false

theorem nm_parts (s : ByteArray) (h0 : 0 < s.size) : nmB s = (decide (s.size ≤ 40) && (ltrN ((s[0]'h0).toNat) && (s.data.toList.all (fun b => wrdN b.toNat) && !kwB s))) := by
  unfold nmB
  rw [at_list s 0 h0]
  simp [h0]
theorem nm_empty (s : ByteArray) (h0 : s.size = 0) : nmB s = false := by unfold nmB; simp [h0]
theorem empty_is (s : ByteArray) (h0 : s.size = 0) : s = ⟨#[]⟩ := ba_list (List.eq_nil_of_length_eq_zero h0)
theorem nonempty_t (s : ByteArray) (h0 : 0 < s.size) : s.toList.isEmpty = false ∧ ¬ (s.toList = []) ∧ (s.toList == []) = false ∧ (s.toList == (⟨#[]⟩ : ByteArray).toList) = false := by
  have e : s.toList ≠ [] := fun e => by rw [Lib.toList_data] at e; have : s.data.toList.length = s.size := rfl; rw [e] at this; simp at this; omega
  have e2 : (⟨#[]⟩ : ByteArray).toList = [] := by rw [Lib.toList_data]
  refine ⟨by simpa using e, e, by simpa using e, by rw [e2]; simpa using e⟩
set_option maxHeartbeats 4000000 in
theorem isName_x (s : ByteArray) (w : World) (htab : AscT w) : Calls Tryz.prog 87 #[.string s] w fun e w' => e = .returned (.bool (nmB s)) ∧ Ext w w' := by
  by_cases h0 : 0 < s.size
  · rw [nm_parts s h0]
    obtain ⟨z1, z2, z3, z4⟩ := nonempty_t s h0
    by_cases h40 : s.size ≤ 40
    · rw [decide_eq_true h40, Bool.true_and]
      have t1 : decide ((40 : Int) < (s.size : Int)) = false := decide_eq_false (by omega)
      have t1' : decide (40 < s.size) = false := decide_eq_false (by omega)
      obtain ⟨c, hc⟩ : ∃ c : Nat, (s[0]'h0).toNat = c := ⟨_, rfl⟩
      have hc255 : c ≤ 255 := by rw [← hc]; have := (s[0]'h0).toNat_lt; omega
      rw [hc]
      have CL := Lib.hid (class_x c w hc255)
      have KW := Lib.hid (isKeyword_x s w htab)
      cases hl : ltrN c with
      | false =>
        have hl2 : ((clsN c : Nat) : Int) ≠ 2 := by
          rw [cls_ltr] at hl
          have := of_decide_eq_false hl
          omega
        have t2 : (((clsN c : Nat) : Int) != 2) = true := bne_iff_ne.2 hl2
        have t2' : (((clsN c : Nat) : Int) == 2) = false := beq_eq_false_iff_ne.2 hl2
        clear hl hl2 KW
        generalize ((clsN c : Nat) : Int) = Y at *
        go_enter Tryz.func87, Tryz.ntmps87
        go_wp2_with fail
        refine CL.out.mono ?_
        rintro e w' ⟨rfl, rfl⟩
        go_wp2_with fail
        go_ret
        exact ⟨rfl, Upd.refl _ _⟩
      | true =>
        have hl2 : clsN c = 2 := by
          rw [cls_ltr] at hl
          exact of_decide_eq_true hl
        rw [hl2] at CL
        clear hl hl2
        cases hk : kwB s with
        | true =>
          rw [hk] at KW
          clear hk
          go_enter Tryz.func87, Tryz.ntmps87
          go_wp2_with fail
          refine CL.out.mono ?_
          rintro e w' ⟨rfl, rfl⟩
          go_wp2_with fail
          refine KW.out.mono ?_
          rintro e w' ⟨rfl, hE⟩
          have HE := Lib.hid hE
          clear hE
          go_wp2_with fail
          go_ret
          exact ⟨by simp, HE.out⟩
        | false =>
          rw [hk] at KW
          rw [Bool.not_false, Bool.and_true, Bool.true_and]
          obtain ⟨R, hR⟩ : ∃ R, s.data.toList.all (fun b => wrdN b.toNat) = R := ⟨_, rfl⟩
          rw [hR]
          have HR := Lib.hid hR
          clear hk hR
          go_enter Tryz.func87, Tryz.ntmps87
          go_wp2_with fail
          refine CL.out.mono ?_
          rintro e w' ⟨rfl, rfl⟩
          go_wp2_with fail
          refine KW.out.mono ?_
          rintro e w' ⟨rfl, hE⟩
          have HE := Lib.hid hE
          clear hE hc CL KW t1 t1' z1 z2 z3 z4
          go_wp2_with fail
          go_loopg [3, 23] s.size (fun gk _ i wr => ∃ j : Nat, i = .int .i64 j ∧ gk = s.size - j ∧ j ≤ s.size ∧ Hid ((s.data.toList.take j).all (fun b => wrdN b.toNat) = true) ∧ wr = w')
          case atStart => exact ⟨0, rfl, rfl, Nat.zero_le _, rfl, rfl⟩
          case round =>
            obtain ⟨j, rfl, rfl, hj, Hj, rfl⟩ := hrel
            by_cases hlt : j < s.size
            · obtain ⟨d, hd⟩ : ∃ d : Nat, (s[j]'hlt).toNat = d := ⟨_, rfl⟩
              have hd255 : d ≤ 255 := by rw [← hd]; have := (s[j]'hlt).toNat_lt; omega
              have CD := Lib.hid (class_x d wr hd255)
              have hw := cls_wrd d
              have i0' : (0 : Int) ≤ (j : Int) := by omega
              have i1' : (j : Int) < (s.size : Int) := by omega
              cases hx : wrdN d with
              | true =>
                rw [hx] at hw
                have hw2 := of_decide_eq_true hw.symm
                have HJ2 : Hid ((s.data.toList.take (j + 1)).all (fun b => wrdN b.toNat) = true) := by
                  show _ = _
                  rw [all_take s j hlt, hd, Hj.out, hx]; rfl
                have t3 : decide (((clsN d : Nat) : Int) < 2) = false := decide_eq_false (by omega)
                have t3' : decide (clsN d < 2) = false := decide_eq_false (by omega)
                clear hx hw hw2 Hj
                generalize clsN d = Y at *
                go_wp2_with fail
                refine CD.out.mono ?_
                rintro e w' ⟨rfl, rfl⟩
                go_wp2_with fail
                go_roundg (s.size - (j + 1))
                case measure => omega
                case rel => exact ⟨j + 1, by go_num, rfl, by omega, HJ2, rfl⟩
              | false =>
                rw [hx] at hw
                have hw2 := of_decide_eq_false hw.symm
                obtain rfl : R = false := HR.out.symm.trans (all_stop s j hlt _ (by rw [hd]; exact hx))
                have t3 : decide (((clsN d : Nat) : Int) < 2) = true := decide_eq_true (by omega)
                have t3' : decide (clsN d < 2) = true := decide_eq_true (by omega)
                clear hx hw hw2 Hj HR
                generalize clsN d = Y at *
                go_wp2_with fail
                refine CD.out.mono ?_
                rintro e w' ⟨rfl, rfl⟩
                go_wp2_with fail
                go_ret
                exact ⟨rfl, HE.out⟩
            · obtain rfl : R = true := by
                rw [← HR.out, ← Hj.out, List.take_of_length_le (by show s.size ≤ j; omega)]
              clear HR Hj
              go_wp2_with fail
              go_ret
              exact ⟨rfl, HE.out⟩
    · rw [decide_eq_false h40, Bool.false_and]
      have t1 : decide ((40 : Int) < (s.size : Int)) = true := decide_eq_true (by omega)
      have t1' : decide (40 < s.size) = true := decide_eq_true (by omega)
      go_enter Tryz.func87, Tryz.ntmps87
      go_wp2_with fail
      go_ret
      exact ⟨rfl, Upd.refl _ _⟩
  · rw [nm_empty s (by omega)]
    obtain rfl := empty_is s (by omega)
    go_enter Tryz.func87, Tryz.ntmps87
    go_wp2_with fail
    go_ret
    exact ⟨rfl, Upd.refl _ _⟩
set_option maxHeartbeats 4000000 in
theorem rIsName_x (s : ByteArray) (w : World) : Calls Tryz.prog 73 #[.string s] w fun e w' => e = .returned (.bool (nmB s)) ∧ Ext w w' := by
  by_cases h0 : 0 < s.size
  · rw [nm_parts s h0]
    have g1 : ((s.size : Int) == 0) = false := beq_eq_false_iff_ne.2 (by omega)
    have g2 : ¬ (s.size = 0) := by omega
    have g3 : (s.size == 0) = false := beq_eq_false_iff_ne.2 g2
    by_cases h40 : s.size ≤ 40
    · rw [decide_eq_true h40, Bool.true_and]
      have t1 : decide ((40 : Int) < (s.size : Int)) = false := decide_eq_false (by omega)
      have t1' : decide (40 < s.size) = false := decide_eq_false (by omega)
      obtain ⟨c, hc⟩ : ∃ c : Nat, (s[0]'h0).toNat = c := ⟨_, rfl⟩
      have hc255 : c ≤ 255 := by rw [← hc]; have := (s[0]'h0).toNat_lt; omega
      rw [hc]
      have CL := Lib.hid (letter_x c w hc255)
      cases hl : ltrN c with
      | false =>
        rw [hl] at CL
        clear hl
        go_enter Tryz.func73, Tryz.ntmps73
        go_wp2_with fail
        refine CL.out.mono ?_
        rintro e w' ⟨rfl, rfl⟩
        go_wp2_with fail
        go_ret
        exact ⟨rfl, Upd.refl _ _⟩
      | true =>
        rw [hl] at CL
        rw [Bool.true_and]
        have KW := Lib.hid (rIsKeyword_x s w)
        obtain ⟨R, hR⟩ : ∃ R, s.data.toList.all (fun b => wrdN b.toNat) = R := ⟨_, rfl⟩
        rw [hR]
        have HR := Lib.hid hR
        clear hl hR
        go_enter Tryz.func73, Tryz.ntmps73
        go_wp2_with fail
        refine CL.out.mono ?_
        rintro e w' ⟨rfl, rfl⟩
        clear hc CL
        go_wp2_with fail
        go_loopg [3] s.size (fun gk i wr => ∃ j : Nat, i = .int .i64 j ∧ gk = s.size - j ∧ j ≤ s.size ∧ Hid ((s.data.toList.take j).all (fun b => wrdN b.toNat) = true) ∧ wr = w)
        case atStart => exact ⟨0, rfl, rfl, Nat.zero_le _, rfl, rfl⟩
        case round =>
          obtain ⟨j, rfl, rfl, hj, Hj, rfl⟩ := hrel
          by_cases hlt : j < s.size
          · obtain ⟨d, hd⟩ : ∃ d : Nat, (s[j]'hlt).toNat = d := ⟨_, rfl⟩
            have hd255 : d ≤ 255 := by rw [← hd]; have := (s[j]'hlt).toNat_lt; omega
            have CD := Lib.hid (word_x d wr hd255)
            have i0' : (0 : Int) ≤ (j : Int) := by omega
            have i1' : (j : Int) < (s.size : Int) := by omega
            cases hx : wrdN d with
            | true =>
              rw [hx] at CD
              have HJ2 : Hid ((s.data.toList.take (j + 1)).all (fun b => wrdN b.toNat) = true) := by
                show _ = _
                rw [all_take s j hlt, hd, Hj.out, hx]; rfl
              clear hx Hj
              go_wp2_with fail
              refine CD.out.mono ?_
              rintro e w' ⟨rfl, rfl⟩
              go_wp2_with fail
              go_roundg (s.size - (j + 1))
              case measure => omega
              case rel => exact ⟨j + 1, by go_num, rfl, by omega, HJ2, rfl⟩
            | false =>
              rw [hx] at CD
              obtain rfl : R = false := HR.out.symm.trans (all_stop s j hlt _ (by rw [hd]; exact hx))
              clear hx Hj HR
              go_wp2_with fail
              refine CD.out.mono ?_
              rintro e w' ⟨rfl, rfl⟩
              go_wp2_with fail
              go_ret
              exact ⟨rfl, Upd.refl _ _⟩
          · obtain rfl : R = true := by
              rw [← HR.out, ← Hj.out, List.take_of_length_le (by show s.size ≤ j; omega)]
            clear HR Hj
            cases hk : kwB s with
            | true =>
              rw [hk] at KW
              have HKW := Lib.hid hk
              clear hk
              go_wp2_with fail
              refine KW.out.mono ?_
              rintro e w' ⟨rfl, hE⟩
              have HE := Lib.hid hE
              clear hE
              go_wp2_with fail
              go_ret
              exact ⟨by simp [HKW.out], HE.out⟩
            | false =>
              rw [hk] at KW
              have HKW := Lib.hid hk
              clear hk
              go_wp2_with fail
              refine KW.out.mono ?_
              rintro e w' ⟨rfl, hE⟩
              have HE := Lib.hid hE
              clear hE
              go_wp2_with fail
              go_ret
              exact ⟨by simp [HKW.out], HE.out⟩
    · rw [decide_eq_false h40, Bool.false_and]
      have t1 : decide ((40 : Int) < (s.size : Int)) = true := decide_eq_true (by omega)
      have t1' : decide (40 < s.size) = true := decide_eq_true (by omega)
      go_enter Tryz.func73, Tryz.ntmps73
      go_wp2_with fail
      go_ret
      exact ⟨rfl, Upd.refl _ _⟩
  · rw [nm_empty s (by omega)]
    obtain rfl := empty_is s (by omega)
    go_enter Tryz.func73, Tryz.ntmps73
    go_wp2_with fail
    go_ret
    exact ⟨rfl, Upd.refl _ _⟩

end Go.Proofs.YtjjaknmnhhfjeaaGreatDoor

/- formed. -/
namespace Go.Proofs.YtjjaknmnhhfjeaaGreatDoor
open Go.RowKit Go.Hw Go
set_option linter.unusedVariables false
set_option linter.unusedSimpArgs false

open Go.Shelf Tm
attribute [local go_sem] Oper.semAt_some
theorem below_ext {n : Nat} {w W : World} (h : Below n w W) (hn : w.heap.size ≤ n) : Ext w W := ⟨h.os, h.tape, h.output, h.size, fun k hk _ => h.block k (by omega)⟩
def okNs (pre : List Nd) : Bool := pre.all fun x => okN nmB x.pr
theorem okNs_snoc (pre : List Nd) (x : Nd) : okNs (pre ++ [x]) = (okNs pre && okN nmB x.pr) := by unfold okNs; rw [List.all_append]; simp
theorem keeps_upd {F : Nat → Prop} {W W' : World} (B : Nat) (h : Upd F W W') (hF : ∀ k o, F k → W.heap[k]? = some o → o.isCells = true) : KeepsFrom B W W' :=
  ⟨h.size, fun k o _ hk ho => by
    by_cases hf : F k
    · rw [hF k o hf hk] at ho; cases ho
    · exact h.heap hk hf⟩
theorem keeps_ext {W W' : World} (B : Nat) (h : Ext W W') : KeepsFrom B W W' := keeps_upd B h (fun _ _ h => h.elim)
theorem okNs_bad {pre : List Nd} {t : Tm} (hp : pre.map Nd.pr <+: nodesD 1 t) (h : okNs pre = false ∨ 1000 < pre.length) : formed nmB t = false := by
  rw [Bool.eq_false_iff]
  intro hc
  obtain ⟨h1, h2⟩ := (formed_iff nmB t).1 hc
  obtain ⟨r, hr⟩ := hp
  rcases h with h | h
  · have h3 : okNs pre = true := by
      unfold okNs
      rw [List.all_eq_true]
      intro x hx
      refine h2 x.pr ?_
      rw [← hr]
      exact List.mem_append_left _ (List.mem_map_of_mem hx)
    rw [h] at h3; cases h3
  · have h4 := congrArg List.length hr
    rw [List.length_append, List.length_map, nodesD_len] at h4
    omega
theorem okNs_all {xs : List Nd} {t : Tm} (hp : xs.map Nd.pr = nodesD 1 t) (h : okNs xs = true) (hl : xs.length ≤ 1000) : formed nmB t = true := by
  rw [formed_iff]
  have h4 := congrArg List.length hp
  rw [List.length_map, nodesD_len] at h4
  refine ⟨by omega, fun p hpm => ?_⟩
  rw [← hp] at hpm
  obtain ⟨x, hx, rfl⟩ := List.mem_map.1 hpm
  unfold okNs at h
  rw [List.all_eq_true] at h
  exact h x hx
set_option maxRecDepth 100000 in
set_option maxHeartbeats 4000000 in
theorem formed_x (t : Tm) (v : Value) (w : World) (htab : AscT w) (hR : TmR (fun k => k < w.heap.size) w t v) (hsz : (t.size : Int) ≤ 1000000000000) : Calls Tryz.prog 49 #[v] w fun e w' => e = .returned (.bool (formed nmB t)) ∧ Ext w w' := by
  obtain ⟨a, cap, rfl, hR⟩ := hR
  dsimp only [tV]
  have ha0 := alloc0 w (.cells #[.string t.name, .string t.sort, .slice a t.kids.length cap] 24)
  refine (callsIn_wide (n := 9)).1 ?_
  have hro : Fence.wide.round = none := rfl
  have hd : Fence.wide.depth = none := rfl
  have hf : ∀ k, Fence.wide.fn k := fun _ => trivial
  have h1 : 1 ≤ 9 := by omega
  refine callsIn_of_wp_marks Tryz.func49 rfl trivial ?_ hro
  have hE3 : Ext w (((w.alloc (.cells #[.string t.name, .string t.sort, .slice a t.kids.length cap] 24)).alloc (.cells #[.bool false] 4)).alloc (.cells #[.int .i64 0] 3)) := (((Upd.refl _ w).alloc _).alloc _).alloc _
  have hs3 : (((w.alloc (.cells #[.string t.name, .string t.sort, .slice a t.kids.length cap] 24)).alloc (.cells #[.bool false] 4)).alloc (.cells #[.int .i64 0] 3)).heap.size = w.heap.size + 3 := by simp
  have hbR : (((w.alloc (.cells #[.string t.name, .string t.sort, .slice a t.kids.length cap] 24)).alloc (.cells #[.bool false] 4)).alloc (.cells #[.int .i64 0] 3)).heap[w.heap.size + 1]? = some (.cells #[.bool false] 4 (0, 0)) := allocOld (alloc_at _ _ (by simp)) _
  have hbN : (((w.alloc (.cells #[.string t.name, .string t.sort, .slice a t.kids.length cap] 24)).alloc (.cells #[.bool false] 4)).alloc (.cells #[.int .i64 0] 3)).heap[w.heap.size + 2]? = some (.cells #[.int .i64 0] 3 (0, 0)) := alloc_at _ _ (by simp)
  simp only [Tryz.ntmps49, List.size_toArray, List.length_cons, List.length_nil, Nat.reduceAdd, Nat.reduceSub, Array.replicate_succ, Array.replicate_zero, List.push_toArray, List.append_toArray, List.nil_append, List.cons_append]
  gi_wp2
  generalize (((w.alloc (.cells #[.string t.name, .string t.sort, .slice a t.kids.length cap] 24)).alloc (.cells #[.bool false] 4)).alloc (.cells #[.int .i64 0] 3)) = w3 at *
  refine (callsIn_wide.2 (nodes_x t (.slice a t.kids.length cap) w3 ⟨_, _, _, rfl⟩)).mono ?_
  rintro e w4 ⟨rfl, hE4, hs4, hb4, hv4⟩
  rw [hs3] at hs4 hb4 hv4 ⊢
  have hE := hE3.ext hE4
  have hbR4 := hE4.heap hbR (fun h => h)
  have hbN4 := hE4.heap hbN (fun h => h)
  clear hE3 hs3 hbR hbN hE4
  gi_wp2
  rw [show w.heap.size + 2 = w.heap.size + 1 + 1 from rfl] at hbN4
  generalize hB2 : w.heap.size + 1 + 1 = B2 at *
  generalize hB1 : w.heap.size + 1 = B1 at *
  generalize hB4 : w.heap.size + 3 + 1 = B4 at *
  generalize hB3 : w.heap.size + 3 = B3 at *
  generalize hB0 : w.heap.size = B0 at *
  refine wpIn_rangeFunc_ownH hro h1 (gf := 114) (lb := #[.pointer (some ⟨B4, 0, none⟩), .pointer (some ⟨B3, 0, none⟩)]) rfl trivial (enters_of Tryz.func114 (by kernel_rfl) rfl)
    (nodes_stops Fence.wide hd (9 - 1) hf hro B4 B3 (fun k => k = B1 ∨ k = B2) (fun k => k < B0) w4 (by omega) (by omega) (by omega) (by omega) t a cap (hR.ext hE) hv4 hb4 (by omega)) (fun h k => KpG.trans h k) (fun W l o o' _ hl hc _ => KpG.putObj W l o o' hl hc) (Below.refl _ _) (fun _ => rfl)
    (fun pre W => (((okNs pre = true ∧ pre.length ≤ 1000) ∧ Boxed W B1 4 (.bool false)) ∧ Boxed W B2 3 (.int .i64 (pre.length : Int))) ∧ (Boxed W B4 163 (.func (.func 113) #[] #[.pointer (some ⟨B4, 0, none⟩)]) ∧ Below B0 w W))
    (fun c pre W => ((c = .ret ∧ (okNs pre = false ∨ 1000 < pre.length)) ∧ Boxed W B1 4 (.bool false)) ∧ Below B0 w W)
    (OwnFrom.and (OwnFrom.and (OwnFrom.and (ownFrom_pure _ _) (Own.from (boxed_own _ _ _) _)) (Own.from (boxed_own B2 3 (fun pre : List Nd => Value.int .i64 (pre.length : Int))) _)) (OwnFrom.and (Own.from (boxed_own _ _ _) _) (ownFrom_below (by omega) (by omega))))
    (fun c => OwnFrom.and (OwnFrom.and (ownFrom_pure _ _) (Own.from (boxed_own _ _ _) _)) (ownFrom_below (by omega) (by omega)))
    ⟨⟨⟨⟨rfl, by decide⟩, hbR4⟩, hbN4⟩, hv4, hB0 ▸ Ext.below hE⟩
    (fun x a' W => ∃ Bx, B4 < Bx ∧ W.heap[Bx]? = some (.cells #[.string x.t.name, .string x.t.sort, .slice x.a x.t.kids.length x.cap] 24 (0, 0)) ∧ a' = { tmps := #[(.agg #[.string t.name, .string t.sort, .slice a t.kids.length cap]), .pointer (some ⟨B0, 0, none⟩), .pointer (some ⟨B1, 0, none⟩), .pointer (some ⟨B2, 0, none⟩), .pointer (some ⟨Bx, 0, none⟩), .int .i64 (x.d : Int), (.agg #[.string t.name, .string t.sort, .slice a t.kids.length cap]), (.func (.func 114) #[] #[.pointer (some ⟨B4, 0, none⟩), .pointer (some ⟨B3, 0, none⟩)]), (.agg #[.string x.t.name, .string x.t.sort, .slice x.a x.t.kids.length x.cap]), .int .i64 (x.d : Int), undef, undef, undef, undef, undef, undef, undef, undef, undef, undef, undef, undef, undef, undef, undef, undef, undef, undef, undef, undef, undef, undef, undef, undef, undef, undef, undef, undef, undef, undef, undef, undef, undef, undef, undef], defers := [] })
    (fun x a' _ X Y row hs hg hr => by
      obtain ⟨Bx, e1, e2, e3⟩ := hs
      refine ⟨Bx, e1, (Upd.of_grown hg).heap e2 (fun e => ?_), e3⟩
      obtain ⟨o, ho, hc⟩ := (hr Bx e.symm).2
      rw [e2] at ho
      cases ho
      cases hc) ?assign ?body ?done ?stop
  case assign =>
    rintro l pre x W K ⟨⟨⟨hok, hb1⟩, hb2⟩, hb4, hB⟩ hK
    dsimp only [Nd.encs, tV]
    have hbx := alloc0 W (.cells #[.string x.t.name, .string x.t.sort, .slice x.a x.t.kids.length x.cap] 24)
    have hlt := hb2.lt
    gi_wp2
    exact hK _ _ (keeps_ext _ ((Upd.refl _ W).alloc _)) (KpG.of_ext ((Upd.refl _ W).alloc _)) ⟨⟨⟨hok, hb1.alloc _⟩, hb2.alloc _⟩, hb4.alloc _, hB.alloc (by have := hB.size; omega) _⟩ ⟨W.heap.size, hb4.lt, hbx, rfl⟩
  case body =>
    rintro l pre x a' W hl hrec ⟨⟨⟨⟨hok, hlen⟩, hb1⟩, hb2⟩, hb4, hB⟩ ⟨Bx, hBx, hbx, rfl⟩ hlt
    have hE0 := below_ext hB (by omega)
    have hu : Upd (fun k => k = B2) W (W.setCell ⟨B2, 0, none⟩ (.int .i64 ((pre.length : Int) + 1))) := (Upd.refl (fun k => k = B2) W).setCell (p := ⟨B2, 0, none⟩) (.inl rfl) _
    have n0 := hb2.cell
    have n1 := hb2.frozen
    have hwn : IntKind.i64.wrap ((pre.length : Int) + 1) = (pre.length : Int) + 1 := IntWalk.i64_in _ (by omega)
    have hlt4 := hb4.lt
    have hE1 : Ext w (W.setCell ⟨B2, 0, none⟩ (.int .i64 ((pre.length : Int) + 1))) := hE0.trans' hu (fun i hi e => by omega)
    have hbx1 := hu.heap hbx (by omega)
    have hb21 : Boxed (W.setCell ⟨B2, 0, none⟩ (.int .i64 ((pre.length : Int) + 1))) B2 3 (.int .i64 ((pre.length : Int) + 1)) := setBlock hb2 0 _
    have hb11 : Boxed (W.setCell ⟨B2, 0, none⟩ (.int .i64 ((pre.length : Int) + 1))) B1 4 (.bool false) := hu.heap hb1 (by omega)
    have hb41 : Boxed (W.setCell ⟨B2, 0, none⟩ (.int .i64 ((pre.length : Int) + 1))) B4 163 (.func (.func 113) #[] #[.pointer (some ⟨B4, 0, none⟩)]) := hu.heap hb4 (by omega)
    have m0 := hb21.cell
    have x0 := cellRow hbx1 0 (.string x.t.name) rfl
    have x1 := cellRow hbx1 1 (.string x.t.sort) rfl
    have x2 := cellRow hbx1 2 (.slice x.a x.t.kids.length x.cap) rfl
    have r0 := hb11.cell
    have r1 := hb11.frozen
    have hkg : KpG (fun k => k = B1 ∨ k = B2) W (W.setCell ⟨B2, 0, none⟩ (.int .i64 ((pre.length : Int) + 1))) := KpG.of_upd hu (fun k _ e => .inr e)
    have hkf : KeepsFrom w4.heap.size W (W.setCell ⟨B2, 0, none⟩ (.int .i64 ((pre.length : Int) + 1))) := keeps_upd _ hu (fun k o e ho => by subst e; rw [show W.heap[k]? = _ from hb2] at ho; cases ho; rfl)
    have hBl : Below B0 w (W.setCell ⟨B2, 0, none⟩ (.int .i64 ((pre.length : Int) + 1))) := hB0 ▸ Ext.below hE1
    have HNM := Lib.hid (fun s W' (hW' : Ext w W') => isName_x s W' (asc_ext htab hW'))
    have hbadlen : 1000 < pre.length + 1 → 1000 < (pre ++ [x]).length := fun h => by rw [List.length_append]; exact h
    have hsn := okNs_snoc pre x
    rw [hok, Bool.true_and] at hsn
    have HSN := Lib.hid hsn
    have HREC := Lib.hid hrec
    clear hrec hsn hE0 hok hb1 hb2 hb4 hbx hB hu
    by_cases h1 : 1000 < pre.length + 1
    · have t1 : decide ((1000 : Int) < (pre.length : Int) + 1) = true := decide_eq_true (by omega)
      gi_wp2
      have st := (Upd.refl (fun k => k = B1) (W.setCell ⟨B2, 0, none⟩ (.int .i64 ((pre.length : Int) + 1)))).setCell (p := ⟨B1, 0, none⟩) (.inl rfl) (.bool false)
      have hbz : Boxed (W.setCell ⟨B2, 0, none⟩ (.int .i64 ((pre.length : Int) + 1))) B1 4 (.bool false) := (Upd.refl (fun _ => False) (W.setCell ⟨B2, 0, none⟩ (.int .i64 ((pre.length : Int) + 1)))).heap hb11 (fun h => h)
      refine ⟨hkf.trans ((keeps_ext _ (Upd.refl (fun _ => False) (W.setCell ⟨B2, 0, none⟩ (.int .i64 ((pre.length : Int) + 1))))).trans (keeps_upd _ st (fun k o e ho => by subst e; rw [show (W.setCell ⟨B2, 0, none⟩ (.int .i64 ((pre.length : Int) + 1))).heap[k]? = _ from hbz] at ho; cases ho; rfl))), ⟨⟨rfl, .inr (hbadlen h1)⟩, setBlock hbz 0 (.bool false)⟩, hB0 ▸ Ext.below ((hE1.ext (Upd.refl (fun _ => False) (W.setCell ⟨B2, 0, none⟩ (.int .i64 ((pre.length : Int) + 1))))).setNew (show w.heap.size ≤ B1 by omega) _)⟩
    have t1 : decide ((1000 : Int) < (pre.length : Int) + 1) = false := decide_eq_false (by omega)
    by_cases h2 : 60 < x.d
    · have t2 : decide ((60 : Int) < (x.d : Int)) = true := decide_eq_true (by omega)
      have t2' : decide (60 < x.d) = true := decide_eq_true h2
      gi_wp2
      have st := (Upd.refl (fun k => k = B1) (W.setCell ⟨B2, 0, none⟩ (.int .i64 ((pre.length : Int) + 1)))).setCell (p := ⟨B1, 0, none⟩) (.inl rfl) (.bool false)
      have hbz : Boxed (W.setCell ⟨B2, 0, none⟩ (.int .i64 ((pre.length : Int) + 1))) B1 4 (.bool false) := (Upd.refl (fun _ => False) (W.setCell ⟨B2, 0, none⟩ (.int .i64 ((pre.length : Int) + 1)))).heap hb11 (fun h => h)
      refine ⟨hkf.trans ((keeps_ext _ (Upd.refl (fun _ => False) (W.setCell ⟨B2, 0, none⟩ (.int .i64 ((pre.length : Int) + 1))))).trans (keeps_upd _ st (fun k o e ho => by subst e; rw [show (W.setCell ⟨B2, 0, none⟩ (.int .i64 ((pre.length : Int) + 1))).heap[k]? = _ from hbz] at ho; cases ho; rfl))), ⟨⟨rfl, .inl (by rw [HSN.out]; unfold okN Nd.pr; simp only [decide_eq_false (show ¬ x.d ≤ 60 by omega), Bool.false_and])⟩, setBlock hbz 0 (.bool false)⟩, hB0 ▸ Ext.below ((hE1.ext (Upd.refl (fun _ => False) (W.setCell ⟨B2, 0, none⟩ (.int .i64 ((pre.length : Int) + 1))))).setNew (show w.heap.size ≤ B1 by omega) _)⟩
    have t2 : decide ((60 : Int) < (x.d : Int)) = false := decide_eq_false (by omega)
    have t2' : decide (60 < x.d) = false := decide_eq_false h2
    have k2 : decide (x.d ≤ 60) = true := decide_eq_true (by omega)
    have HN1 := Lib.hid (HNM.out x.t.name (W.setCell ⟨B2, 0, none⟩ (.int .i64 ((pre.length : Int) + 1))) hE1)
    cases hnm : nmB x.t.name
    · rw [hnm] at HN1
      gi_wp2
      refine (CallsIn.inRound l (callsIn_wide.2 HN1.out)).mono ?_
      rintro e W2 ⟨rfl, hW2⟩
      have hbx2b := (hW2).heap hbx1 (fun h => h)
      have x0b := cellRow hbx2b 0 (.string x.t.name) rfl
      have x1b := cellRow hbx2b 1 (.string x.t.sort) rfl
      have x2b := cellRow hbx2b 2 (.slice x.a x.t.kids.length x.cap) rfl
      have hbrb : Boxed _ B1 4 (.bool false) := (hW2).heap hb11 (fun h => h)
      have r0b := hbrb.cell
      have r1b := hbrb.frozen
      clear x0 x1 x2 r0 r1
      gi_wp2
      have st := (Upd.refl (fun k => k = B1) W2).setCell (p := ⟨B1, 0, none⟩) (.inl rfl) (.bool false)
      have hbz : Boxed W2 B1 4 (.bool false) := (hW2).heap hb11 (fun h => h)
      refine ⟨hkf.trans ((keeps_ext _ (hW2)).trans (keeps_upd _ st (fun k o e ho => by subst e; rw [show W2.heap[k]? = _ from hbz] at ho; cases ho; rfl))), ⟨⟨rfl, .inl (by rw [HSN.out]; unfold okN Nd.pr; simp only [k2, hnm, Bool.true_and, Bool.false_and])⟩, setBlock hbz 0 (.bool false)⟩, hB0 ▸ Ext.below ((hE1.ext (hW2)).setNew (show w.heap.size ≤ B1 by omega) _)⟩
    rw [hnm] at HN1
    by_cases h4 : 6 < x.t.kids.length
    · have t4 : decide ((6 : Int) < (x.t.kids.length : Int)) = true := decide_eq_true (by omega)
      have t4' : decide (6 < x.t.kids.length) = true := decide_eq_true h4
      gi_wp2
      refine (CallsIn.inRound l (callsIn_wide.2 HN1.out)).mono ?_
      rintro e W2 ⟨rfl, hW2⟩
      have hbx2b := (hW2).heap hbx1 (fun h => h)
      have x0b := cellRow hbx2b 0 (.string x.t.name) rfl
      have x1b := cellRow hbx2b 1 (.string x.t.sort) rfl
      have x2b := cellRow hbx2b 2 (.slice x.a x.t.kids.length x.cap) rfl
      have hbrb : Boxed _ B1 4 (.bool false) := (hW2).heap hb11 (fun h => h)
      have r0b := hbrb.cell
      have r1b := hbrb.frozen
      clear x0 x1 x2 r0 r1
      gi_wp2
      have st := (Upd.refl (fun k => k = B1) W2).setCell (p := ⟨B1, 0, none⟩) (.inl rfl) (.bool false)
      have hbz : Boxed W2 B1 4 (.bool false) := (hW2).heap hb11 (fun h => h)
      refine ⟨hkf.trans ((keeps_ext _ (hW2)).trans (keeps_upd _ st (fun k o e ho => by subst e; rw [show W2.heap[k]? = _ from hbz] at ho; cases ho; rfl))), ⟨⟨rfl, .inl (by rw [HSN.out]; unfold okN Nd.pr; simp only [k2, hnm, decide_eq_false (show ¬ x.t.kids.length ≤ 6 by omega), Bool.true_and, Bool.false_and])⟩, setBlock hbz 0 (.bool false)⟩, hB0 ▸ Ext.below ((hE1.ext (hW2)).setNew (show w.heap.size ≤ B1 by omega) _)⟩
    have t4 : decide ((6 : Int) < (x.t.kids.length : Int)) = false := decide_eq_false (by omega)
    have t4' : decide (6 < x.t.kids.length) = false := decide_eq_false h4
    have k4 : decide (x.t.kids.length ≤ 6) = true := decide_eq_true (by omega)
    gi_wp2
    refine (CallsIn.inRound l (callsIn_wide.2 HN1.out)).mono ?_
    rintro e W2 ⟨rfl, hW2⟩
    have hbx2b := (hW2).heap hbx1 (fun h => h)
    have x0b := cellRow hbx2b 0 (.string x.t.name) rfl
    have x1b := cellRow hbx2b 1 (.string x.t.sort) rfl
    have x2b := cellRow hbx2b 2 (.slice x.a x.t.kids.length x.cap) rfl
    have hbrb : Boxed _ B1 4 (.bool false) := (hW2).heap hb11 (fun h => h)
    have r0b := hbrb.cell
    have r1b := hbrb.frozen
    clear x0 x1 x2 r0 r1
    by_cases hs0 : x.t.sort.size = 0
    · have hse := empty_is _ hs0
      rw [hse] at x1b
      gi_wp2
      any_goals (first | exact ⟨hkf.trans (keeps_ext _ (hW2)), hkg.trans (KpG.of_ext (hW2)), ⟨⟨⟨⟨by rw [HSN.out]; unfold okN Nd.pr; simp only [k2, hnm, k4, decide_eq_true (show x.t.sort = nul from hse), Bool.true_and, Bool.true_or], by rw [List.length_append]; exact Nat.le_of_not_lt h1⟩, (hW2).heap hb11 (fun h => h)⟩, by rw [List.length_append]; exact (hW2).heap hb21 (fun h => h)⟩, (hW2).heap hb41 (fun h => h), hB0 ▸ Ext.below (hE1.ext (hW2))⟩⟩ | fail)
      all_goals (rename_i hq _; exact absurd hq (by simp [undef]))
    have k5 : decide (x.t.sort = nul) = false := decide_eq_false (fun e => hs0 (by rw [e]; rfl))
    obtain ⟨e1, e2, e3, e4⟩ := nonempty_t x.t.sort (Nat.pos_of_ne_zero hs0)
    have HN3 := Lib.hid (HNM.out x.t.sort W2 (hE1.ext hW2))
    cases hns : nmB x.t.sort
    · rw [hns] at HN3
      gi_wp2
      refine (CallsIn.inRound l (callsIn_wide.2 HN3.out)).mono ?_
      rintro e W3 ⟨rfl, hW3⟩
      have hbx2c := (hW2.ext hW3).heap hbx1 (fun h => h)
      have x0c := cellRow hbx2c 0 (.string x.t.name) rfl
      have x1c := cellRow hbx2c 1 (.string x.t.sort) rfl
      have x2c := cellRow hbx2c 2 (.slice x.a x.t.kids.length x.cap) rfl
      have hbrc : Boxed _ B1 4 (.bool false) := (hW2.ext hW3).heap hb11 (fun h => h)
      have r0c := hbrc.cell
      have r1c := hbrc.frozen
      clear x0b x1b x2b r0b r1b
      gi_wp2
      have st := (Upd.refl (fun k => k = B1) W3).setCell (p := ⟨B1, 0, none⟩) (.inl rfl) (.bool false)
      have hbz : Boxed W3 B1 4 (.bool false) := (hW2.ext hW3).heap hb11 (fun h => h)
      refine ⟨hkf.trans ((keeps_ext _ (hW2.ext hW3)).trans (keeps_upd _ st (fun k o e ho => by subst e; rw [show W3.heap[k]? = _ from hbz] at ho; cases ho; rfl))), ⟨⟨rfl, .inl (by rw [HSN.out]; unfold okN Nd.pr; simp only [k2, hnm, k4, k5, hns, Bool.true_and, Bool.false_and, Bool.or_false])⟩, setBlock hbz 0 (.bool false)⟩, hB0 ▸ Ext.below ((hE1.ext (hW2.ext hW3)).setNew (show w.heap.size ≤ B1 by omega) _)⟩
    rw [hns] at HN3
    gi_wp2
    refine (CallsIn.inRound l (callsIn_wide.2 HN3.out)).mono ?_
    rintro e W3 ⟨rfl, hW3⟩
    have hbx2c := (hW2.ext hW3).heap hbx1 (fun h => h)
    have x0c := cellRow hbx2c 0 (.string x.t.name) rfl
    have x1c := cellRow hbx2c 1 (.string x.t.sort) rfl
    have x2c := cellRow hbx2c 2 (.slice x.a x.t.kids.length x.cap) rfl
    have hbrc : Boxed _ B1 4 (.bool false) := (hW2.ext hW3).heap hb11 (fun h => h)
    have r0c := hbrc.cell
    have r1c := hbrc.frozen
    clear x0b x1b x2b r0b r1b
    by_cases h7 : 0 < x.t.kids.length
    · have t7 : decide ((0 : Int) < (x.t.kids.length : Int)) = true := decide_eq_true (by omega)
      have t7' : decide (0 < x.t.kids.length) = true := decide_eq_true h7
      have k7 : decide (x.t.kids.length = 0) = false := decide_eq_false (by omega)
      have HOK : okNs (pre ++ [x]) = false := by rw [HSN.out]; unfold okN Nd.pr; simp only [k2, hnm, k4, k5, hns, k7, Bool.true_and, Bool.and_false, Bool.false_and, Bool.or_false]
      generalize x.t.kids.length = KL at *
      gi_wp2
      have st := (Upd.refl (fun k => k = B1) W3).setCell (p := ⟨B1, 0, none⟩) (.inl rfl) (.bool false)
      have hbz : Boxed W3 B1 4 (.bool false) := (hW2.ext hW3).heap hb11 (fun h => h)
      refine ⟨hkf.trans ((keeps_ext _ (hW2.ext hW3)).trans (keeps_upd _ st (fun k o e ho => by subst e; rw [show W3.heap[k]? = _ from hbz] at ho; cases ho; rfl))), ⟨⟨rfl, .inl HOK⟩, setBlock hbz 0 (.bool false)⟩, hB0 ▸ Ext.below ((hE1.ext (hW2.ext hW3)).setNew (show w.heap.size ≤ B1 by omega) _)⟩
    have t7 : decide ((0 : Int) < (x.t.kids.length : Int)) = false := decide_eq_false (by omega)
    have t7' : decide (0 < x.t.kids.length) = false := decide_eq_false h7
    have k7 : decide (x.t.kids.length = 0) = true := decide_eq_true (by omega)
    have HOK : okNs (pre ++ [x]) = true := by rw [HSN.out]; unfold okN Nd.pr; simp only [k2, hnm, k4, k5, hns, k7, Bool.true_and, Bool.or_true]
    generalize x.t.kids.length = KL at *
    gi_wp2
    exact ⟨hkf.trans (keeps_ext _ (hW2.ext hW3)), hkg.trans (KpG.of_ext (hW2.ext hW3)), ⟨⟨⟨⟨HOK, by rw [List.length_append]; exact Nat.le_of_not_lt h1⟩, (hW2.ext hW3).heap hb11 (fun h => h)⟩, by rw [List.length_append]; exact (hW2.ext hW3).heap hb21 (fun h => h)⟩, (hW2.ext hW3).heap hb41 (fun h => h), hB0 ▸ Ext.below (hE1.ext (hW2.ext hW3))⟩⟩
  case done =>
    rintro D xs W hD hS ⟨⟨⟨⟨hok, hlen⟩, hb1⟩, hb2⟩, hb4, hB⟩ hK
    have r0 := hb1.cell
    have r1 := hb1.frozen
    have hfm := okNs_all hS hok hlen
    gi_wp2
    have hK' := (KeepsOthers.setCell W ⟨B1, 0, none⟩ (.bool true)).same D _ hK rfl
    refine ⟨by simp, .inl ⟨_, _, rfl, run_takeDeferred hK', ?_⟩⟩
    have hc5 := cell_kept (hb1.set (.bool true)).cell (grownBy_putObj' _ D (.deferred none)) (fun r e => by cases e; exact ⟨_, hK', rfl⟩)
    refine ⟨.bool true, ?_, by rw [hfm], below_ext ((hB.setCell (p := ⟨B1, 0, none⟩) (by show B0 ≤ B1; omega) _).trans (belowK_b (w := w) (by omega) _ D _ _ (by omega) hK' rfl rfl)) (by omega)⟩
    simp [results, Tryz.f49, go_sem, hc5]
  case stop =>
    rintro D c pre W hD hS ⟨⟨⟨rfl, hbad⟩, hb1⟩, hB⟩ hK
    have hfm := okNs_bad hS hbad
    gi_wp2
    refine ⟨by simp, .inl ⟨_, _, rfl, run_takeDeferred hK, ?_⟩⟩
    have hc5 := cell_kept hb1.cell (grownBy_putObj' _ D (.deferred none)) (fun r e => by cases e; exact ⟨_, hK, rfl⟩)
    refine ⟨.bool false, ?_, by rw [hfm], below_ext (hB.trans (belowK_b (w := w) (by omega) _ D _ _ (by omega) hK rfl rfl)) (by omega)⟩
    simp [results, Tryz.f49, go_sem, hc5]

end Go.Proofs.YtjjaknmnhhfjeaaGreatDoor
