/- The texts I34 I35 TI I36 I37 I38, one behind the other. -/
import Derived.Test.YtiimccogojkldaaGreatDoorYAG
import Derived.Deep.RegionHeld3
import Derived.Lib.AppendIntMem
import Derived.Test.YtiimccogojkldaaGreatDoorYAH
import Derived.Deep.DeepCutAuto
import Derived.Test.YtiimccogojkldaaGreatDoorYAB
import Derived.Laws.IdiomCopy
/- The order: number. -/
namespace Go.Proofs.YtiimccogojkldaaGreatDoor
open Go.RowKit Go.Hw Go
set_option linter.unusedVariables false
set_option linter.unusedSimpArgs false

open Tm
theorem pow_upd {F : Nat → Prop} {w w' : World} (h : Lib.TabIs Tryz.prog w "internal/strconv.uint64pow10" .u64 Lib.pow10Tab) (hb : Upd F w w') (hF : ∀ k, k < w.heap.size → ¬ F k) : Lib.TabIs Tryz.prog w' "internal/strconv.uint64pow10" .u64 Lib.pow10Tab := by
  unfold Lib.TabIs World.var? at *
  cases hg : Tryz.prog.globalNamed "internal/strconv.uint64pow10" with
  | none => simp [hg] at h
  | some g =>
    simp only [hg, Option.bind_some] at h ⊢
    have hlt : g < w.heap.size := by
      rcases Nat.lt_or_ge g w.heap.size with h' | h'
      · exact h'
      · rw [Array.getElem?_eq_none h'] at h; simp at h
    rw [hb.block g hlt (hF g hlt)]
    exact h
theorem itoa_x (n : Nat) (W : World) (h1 : n ≤ 9223372036854775807) (htab : Lib.TabIs Tryz.prog W "internal/strconv.uint64pow10" .u64 Lib.pow10Tab) : Calls Tryz.prog 103 #[natV n] W fun e w' => e = .returned (.string (nstr n)) ∧ Ext W w' :=
  (Tryz.strconv_Itoa (n : Int) (by omega) (by omega) W htab).mono fun e w' ⟨h, k, os, h'⟩ => ⟨h, by
    subst h'
    have hb := Lib.below_grow W.heap.size W (Nat.le_refl _) k os
    exact ⟨hb.os, hb.tape, hb.output, hb.size, fun k hk _ => hb.block k hk⟩⟩
/-- what is asked of the nodes that are numbered -/
def OkN (ops : List By) (x : Tm) : Prop := NoCS x.name ∧ NoCS x.sort ∧ (x.sort = nul → x.name ∈ ops) ∧ x.name.size ≤ 1000 ∧ x.sort.size ≤ 1000
theorem dec_len (m : Nat) : (Lib.decDigits m).length ≤ m + 1 := by
  induction m using Nat.strongRecOn with
  | _ m ih =>
    rw [Lib.decDigits]
    split
    · simp
    · have := ih (m / 10) (by omega)
      rw [List.length_append, List.length_singleton]
      omega
theorem nstr_size (m : Nat) : (nstr m).size ≤ m + 1 := by
  have h := nstr_list m
  have h2 : (nstr m).size = (nstr m).data.toList.length := by rw [ByteArray.size, Array.length_toList]
  rw [h2, h]
  exact dec_len m
theorem key_size (n s : By) : ∀ ks : List Nat, (∀ k ∈ ks, k ≤ 100000) → (keyK n s ks).size ≤ n.size + s.size + 1 + ks.length * 100002 := by
  have h : ∀ (ks : List Nat) (b : By), (∀ k ∈ ks, k ≤ 100000) → (ks.foldl (fun b k => b ++ (spB ++ nstr k)) b).size ≤ b.size + ks.length * 100002 := by
    intro ks
    induction ks with
    | nil => intro b _; simp
    | cons k ks ih =>
      intro b hk
      rw [List.foldl_cons]
      have h1 := ih (b ++ (spB ++ nstr k)) (fun x hx => hk x (List.mem_cons_of_mem _ hx))
      have h2 := nstr_size k
      have h3 := hk k (List.mem_cons_self ..)
      have h4 : spB.size = 1 := rfl
      rw [ByteArray.size_append, ByteArray.size_append, h4] at h1
      rw [List.length_cons]
      omega
  intro ks hk
  have := h ks ((n ++ colonB) ++ s) hk
  have h4 : colonB.size = 1 := rfl
  rw [ByteArray.size_append, ByteArray.size_append, h4] at this
  unfold keyK
  omega
theorem empty_dec (s : By) : (ByteArray.toList s).isEmpty = decide (s = nul) := by
  rw [Bool.eq_iff_iff, decide_eq_true_eq, List.isEmpty_iff, Lib.toList_data]
  constructor
  · intro h
    exact ba_list (by rw [h]; rfl)
  · intro h; rw [h]; rfl
/-- the order while the parts of a term are numbered -/
structure NumJ (ops : List By) (R B : Nat → Prop) (base n0 : Nat) (w wr : World) (N : List Nt) (L : List Tm) (b : Nat) (kidv : Value) (Nk : List Nt) (Bk : Nat → Prop) (ks : List Nat) (k c : Nat) : Prop where
  ord : OrdR 144 114 ops (fun j => R j ∨ (n0 ≤ j ∧ j < n0 + 2) ∨ kidv.ownBlock = some j) Bk base wr b Nk
  own : wr.ownsRow (n0 + 2) 3 1 kidv k (ks.map natV)
  len : ks.length = k
  map : ks.map (fun q => (ng Nk q).1) = L.take k
  lt : ∀ q ∈ ks, q < Nk.length
  blk : ∀ j, Bk j → B j ∨ n0 + 2 ≤ j
  upd : Upd B w wr
  size : n0 + 2 ≤ wr.heap.size
  pre : N <+: Nk
  cnt : Nk.length ≤ c
  hn : n0 = w.heap.size
  bn : base ≤ n0
  rb : ∀ j, R j → base ≤ j ∧ j < n0
  bb : ∀ j, B j → base ≤ j ∧ j < n0
section
variable {ops : List By} {R B B' : Nat → Prop} {base n0 b : Nat} {w wr wq w5 w6 w7 w8 w9 : World} {N Nk N' : List Nt} {L : List Tm} {kidv kidv' : Value} {Bk : Nat → Prop} {ks : List Nat} {k c c' q : Nat}
theorem ord_lt (h : OrdR 144 114 ops R B base w b N) : ∀ j, B j → base ≤ j ∧ j < w.heap.size ∧ ¬ R j := by
  obtain ⟨nv, br, bk, bd, us, G, rl, kl, dl, h⟩ := h
  exact h.lt
theorem NumJ.resB (h : NumJ ops R B base n0 w wr N L b kidv Nk Bk ks k c) : ∀ j, Bk j → ¬ (n0 ≤ j ∧ j < n0 + 2) ∧ kidv.ownBlock ≠ some j := fun j hj => by
  have := (ord_lt h.ord j hj).2.2
  exact ⟨fun x => this (.inr (.inl x)), fun x => this (.inr (.inr x))⟩
theorem NumJ.ext (h : NumJ ops R B base n0 w wr N L b kidv Nk Bk ks k c) (hq : Ext wr wq) : NumJ ops R B base n0 w wq N L b kidv Nk Bk ks k c :=
  ⟨h.ord.ext hq, own_kept h.own hq (fun _ _ x => x), h.len, h.map, h.lt, h.blk, h.upd.ext hq, Nat.le_trans h.size hq.size, h.pre, h.cnt, h.hn, h.bn, h.rb, h.bb⟩
theorem NumJ.call (h : NumJ ops R B base n0 w wr N L b kidv Nk Bk ks k c) (hs : OrdR 144 114 ops (fun j => R j ∨ (n0 ≤ j ∧ j < n0 + 2) ∨ kidv.ownBlock = some j) B' base w5 b N') (hu : Upd Bk wr w5)
    (hb : ∀ j, B' j → Bk j ∨ wr.heap.size ≤ j) (hp : Nk <+: N') (hc : N'.length ≤ c') : NumJ ops R B base n0 w w5 N L b kidv N' B' ks k c' := by
  have hkid : ∀ j, kidv.ownBlock = some j → n0 + 2 ≤ j := fun j hj => (h.own.lt j hj).1
  refine ⟨hs, own_kept h.own hu (fun j hj hx => (h.resB j hx).2 hj), h.len, ?_, fun q hq' => Nat.lt_of_lt_of_le (h.lt q hq') hp.length_le, fun j hj => ?_, h.upd.trans' hu (fun j hj hx => ?_), Nat.le_trans h.size hu.size, h.pre.trans hp, hc, h.hn, h.bn, h.rb, h.bb⟩
  · rw [← h.map]
    exact List.map_congr_left fun q hq' => by rw [ng_pre hp (h.lt q hq')]
  · rcases hb j hj with hx | hx
    · exact h.blk j hx
    · exact .inr (Nat.le_trans h.size hx)
  · rcases h.blk j hx with h2 | h2
    · exact h2
    · have := h.hn; omega
theorem NumJ.grow (h : NumJ ops R B base n0 w wr N L b kidv Nk Bk ks k c) (hA : Ext wr w7) (hG : Grew (n0 + 2) 3 1 kidv (k + 1) (ks.map natV ++ [natV q]) w7 w8 kidv') (hS : Upd (fun j => j = n0 + 1) w8 w9) (hq : q < Nk.length) (hk : k < L.length) (hx : (ng Nk q).1 = tg L k) :
    NumJ ops R B base n0 w w9 N L b kidv' Nk Bk (ks ++ [q]) (k + 1) c := by
  have hkid : ∀ j, kidv.ownBlock = some j → n0 + 2 ≤ j := fun j hj => (h.own.lt j hj).1
  have hsz : n0 + 2 ≤ w7.heap.size := Nat.le_trans h.size hA.size
  have hkid' : ∀ j, kidv'.ownBlock = some j → n0 + 2 ≤ j := fun j hj => (hG.own.lt j hj).1
  refine ⟨?_, ?_, by simp [h.len], ?_, fun p hp => ?_, h.blk, ((h.upd.ext hA).trans' hG.upd (fun j hj hx => ?_)).trans' hS (fun j hj hx => ?_), Nat.le_trans (Nat.le_trans hsz hG.upd.size) hS.size, h.pre, h.cnt, h.hn, h.bn, h.rb, h.bb⟩
  · refine ((((h.ord.ext hA).reserve).upd hG.upd (fun j hj => .inl (.inr (.inr hj)))).upd hS (fun j hj => .inl (.inr (.inl (by omega))))).weaken (fun j hj => ?_)
    rcases hj with hj | hj | hj
    · exact .inl (.inl hj)
    · exact .inl (.inr (.inl hj))
    · rcases hG.where_ with e | e
      · rw [e] at hj; exact .inl (.inr (.inr hj))
      · rw [e] at hj
        injection hj with hj
        exact .inr (by omega)
  · have := own_kept hG.own hS (fun j hj e => by have := hkid' j hj; omega)
    rw [List.map_append]
    exact this
  · rw [List.map_append, h.map, List.map_singleton, hx, List.take_add_one]
    have : L[k]?.toList = [tg L k] := by unfold tg; rw [List.getD_eq_getElem?_getD, List.getElem?_eq_getElem hk]; rfl
    rw [this]
  · rw [List.mem_append, List.mem_singleton] at hp
    rcases hp with hp | hp
    · exact h.lt p hp
    · rw [hp]; exact hq
  · have := hkid j hx; have := h.hn; omega
  · have := h.hn; omega
/-- a new node behind the map and the append -/
theorem NumJ.fin {nm so : By} {we wb wf W2 : World} {nv nv' : Value} {br bk bd : Nat} {us : List Value} {G : Nat → Prop} {rl kl : List (By × Value)} {dl : List ((Nat × Nat) × Value)}
    (h : NumJ ops R B base n0 w wr N L b kidv Nk Bk ks L.length c) (hX : OrdX 144 114 ops (fun j => R j ∨ (n0 ≤ j ∧ j < n0 + 2) ∨ kidv.ownBlock = some j) Bk base wr b Nk nv br bk bd us G rl kl dl)
    (hn : OkN ops (.mk nm so L)) (hlL : L.length ≤ 1000000) (hf : afind kl (keyK nm so ks) = none)
    (hu : Upd (fun j => j = bk) wr W2) (hm : MpR strV W2 bk (aput kl (keyK nm so ks) (natV Nk.length))) (hA : Ext W2 wb)
    (hG : Grew base 144 3 nv (Nk.length + 1) (nCells Nk us ++ [.string nm, .bool (!decide (so = nul)), kidv]) wb we nv') (hS : Upd (fun j => j = b) we wf)
    (hbox : wf.heap[b]? = some (.cells #[.map (some br), nv', .map (some bk), .map (some bd)] 114 (0, 0))) :
    ∃ N' B', OrdR 144 114 ops R B' base wf b N' ∧ Upd B w wf ∧ (∀ j, B' j → B j ∨ w.heap.size ≤ j) ∧ N <+: N' ∧ N'.length ≤ c + 1 ∧ Nk.length < N'.length ∧ (ng N' Nk.length).1 = .mk nm so L := by
  have hV : ∀ k, kidv.ownBlock = some k → n0 + 2 ≤ k ∧ k < wr.heap.size := fun k hk => ⟨(h.own.lt k hk).1, own_lt h.own k hk⟩
  have hBl := ord_lt h.ord
  have hn0 := h.size
  have hbn := h.bn
  have hs1 := hu.size
  have hs2 := hA.size
  have hs3 := hG.upd.size
  have hs4 := hS.size
  have hbb := hX.bb
  have hU1 : Upd Bk wr we := (((Upd.refl Bk wr).trans' hu (fun i hi e => by rw [e]; exact hbb.2.2.1)).ext hA).trans' hG.upd (fun i hi e => hX.bn i e)
  have hU : Upd Bk wr wf := hU1.trans' hS (fun i hi e => by rw [e]; exact hbb.1)
  have hnv' : ∀ k, nv'.ownBlock = some k → nv.ownBlock = some k ∨ wr.heap.size ≤ k := fun k hk => by
    rcases hG.where_ with e | e
    · rw [e] at hk; exact .inl hk
    · rw [e] at hk; injection hk with hk; exact .inr (by omega)
  have hne : ∀ c, Bk c → nv.ownBlock ≠ some c → nv'.ownBlock ≠ some c := fun c hc h1 e => by
    rcases hnv' c e with h8 | h8
    · exact h1 h8
    · have := (hBl c hc).2.1; omega
  have hown : wf.ownsRow base 144 3 nv' (Nk.length + 1) (nCells Nk us ++ [.string nm, .bool (!decide (so = nul)), kidv]) := own_kept hG.own hS (fun k hk e => hne b hbb.1 hX.dn.1 (by rw [← e]; exact hk))
  have hkm : ∀ c, c ≠ bk → Bk c → nv.ownBlock ≠ some c → c ≠ b → ∀ o, wr.heap[c]? = some o → wf.heap[c]? = some o := fun c h1 h2 h3 h4 o ho => hS.heap (hG.upd.heap (hA.heap (hu.heap ho h1) (fun x => x)) h3) h4
  have hmp : ∀ {κ : Type} [DecidableEq κ] {enc : κ → Value} {l : List (κ × Value)} (c : Nat), c ≠ bk → Bk c → nv.ownBlock ≠ some c → c ≠ b → MpR enc wr c l → MpR enc wf c l := fun c h1 h2 h3 h4 hm => by
    obtain ⟨es, cl, e1, e2⟩ := hm
    exact ⟨es, cl, hkm c h1 h2 h3 h4 _ e1, e2⟩
  have hknown : MpR strV wf bk (aput kl (keyK nm so ks) (natV Nk.length)) := ((hm.ext hA).kept hG.upd hX.dn.2.2.1).kept hS (fun e => hX.dis.2.1 e.symm)
  have hsl : SlR (fun k => kidv.ownBlock = some k) wr 1 kidv ks.length (ks.map natV) := by have := SlR.of_own h.own; rw [← h.len] at this; exact this
  have hP := hX.push (t := .mk nm so L) (ks := ks) (u := kidv) (V := fun k => kidv.ownBlock = some k) (R0 := R) (w' := wf) (nv' := nv') h.lt (by rw [h.map, List.take_length]; rfl) hf ⟨hn.1, hn.2.1⟩ hn.2.2.1 (by rw [h.len]; exact hlL)
    (hU.mono (fun k hk hx => .inl hx)) hbox (hmp br hX.dis.2.2.2.1 hbb.2.1 hX.dn.2.1 (fun e => hX.dis.1 e.symm) hX.rank) (hmp bd (fun e => hX.dis.2.2.2.2.2 e.symm) hbb.2.2.2 hX.dn.2.2.2 (fun e => hX.dis.2.2.1 e.symm) hX.done) hknown hown
    (fun k hk => (hnv' k hk).imp id (fun e => ⟨e, own_lt hown k hk⟩)) (by omega) hsl (fun k hk => ⟨.inr (.inr hk), by have := (hV k hk).1; omega, (hV k hk).2⟩)
    (fun k hk => ⟨.inl hk, by have := h.rb k hk; omega, fun e => by have := h.rb k hk; have := hV k e; omega⟩)
  refine ⟨_, _, ⟨_, _, _, _, _, _, _, _, _, hP⟩, h.upd.trans' hU (fun i hi hx => ?_), fun j hj => ?_, h.pre.trans (List.prefix_append _ _), by rw [List.length_append, List.length_singleton]; have := h.cnt; omega, by simp, by rw [ng_last]⟩
  · have := h.hn
    rcases h.blk i hx with h8 | h8
    · exact h8
    · omega
  · have := h.hn
    rcases hj with hj | hj
    · rcases h.blk j hj with h8 | h8
      · exact .inl h8
      · exact .inr (by omega)
    · exact .inr (by omega)
end
theorem infoN : (Tryz.prog.info? 144).map (fun i => (i.zero, i.size, i.bytes)) = some (some (.agg #[.string ⟨#[]⟩, .bool false, .slice none 0 0]), 3, 48) := by kernel_rfl
set_option maxRecDepth 100000 in
set_option maxHeartbeats 2000000 in
theorem number_x (ops : List By) (base b : Nat) : ∀ (t : Tm) (N : List Nt) (v : Value) (R B T : Nat → Prop) (w : World), OrdR 144 114 ops R B base w b N → TmR T w t v → (∀ k, T k → k < base) → base ≤ w.heap.size → (∀ j, R j → base ≤ j ∧ j < w.heap.size) → N.length + t.size ≤ 100000 →
    (∀ x ∈ sbts t, OkN ops x) → (∀ W, Upd (fun j => base ≤ j) w W → Lib.TabIs Tryz.prog W "internal/strconv.uint64pow10" .u64 Lib.pow10Tab) →
    Calls Tryz.prog 77 #[.pointer (some ⟨b, 0, none⟩), v] w fun e w' => ∃ q N' B', e = .returned (natV q) ∧ OrdR 144 114 ops R B' base w' b N' ∧ Upd B w w' ∧ (∀ j, B' j → B j ∨ w.heap.size ≤ j) ∧ N <+: N' ∧ N'.length ≤ N.length + t.size ∧ q < N'.length ∧ (ng N' q).1 = t := by
  refine Tm.ind (fun nm so L ih => ?_)
  intro N v R B T w hO hT hTb hbase hR hsz hnm hpow
  obtain ⟨a, cap, rfl, hT⟩ := hT
  dsimp only [tV, Tm.name, Tm.sort, Tm.kids] at hT ⊢
  have HTL := Lib.hid hT
  have HIH := Lib.hid ih
  have HTb := Lib.hid hTb
  have HNM := Lib.hid hnm
  have HPW := Lib.hid hpow
  have hroom : N.length + sizes L + 1 ≤ 100000 := by rw [size_eq] at hsz; simp only [Tm.kids] at hsz; omega
  have HR0 := Lib.hid hroom
  have HSZ : Hid ((Tm.mk nm so L).size = sizes L + 1) := Lib.hid (size_eq _)
  have hlL : L.length ≤ 100000 := by have h1 := length_le_sizes L; omega
  clear ih hT hsz hroom hTb hnm hpow
  have HZ : Hid (Ext w ((w.alloc (.cells #[.string nm, .string so, .slice a L.length cap] 25)).alloc (.cells #[.string nm, .bool (!decide (so = nul)), .slice none 0 0] 144))) := Lib.hid (((Upd.refl (fun _ => False) w).alloc _).alloc _)
  have HBT : Hid (((w.alloc (.cells #[.string nm, .string so, .slice a L.length cap] 25)).alloc (.cells #[.string nm, .bool (!decide (so = nul)), .slice none 0 0] 144)).heap[w.heap.size]? = some (.cells #[.string nm, .string so, .slice a L.length cap] 25 (0, 0))) := Lib.hid (allocOld (alloc0 w (.cells #[.string nm, .string so, .slice a L.length cap] 25)) (.cells #[.string nm, .bool (!decide (so = nul)), .slice none 0 0] 144))
  have HBN : Hid (((w.alloc (.cells #[.string nm, .string so, .slice a L.length cap] 25)).alloc (.cells #[.string nm, .bool (!decide (so = nul)), .slice none 0 0] 144)).heap[w.heap.size + 1]? = some (.cells #[.string nm, .bool (!decide (so = nul)), .slice none 0 0] 144 (0, 0))) := Lib.hid (alloc_at (w.alloc (.cells #[.string nm, .string so, .slice a L.length cap] 25)) (.cells #[.string nm, .bool (!decide (so = nul)), .slice none 0 0] 144) (n := w.heap.size + 1) (by simp))
  have HJ : Hid (NumJ ops R B base w.heap.size w ((w.alloc (.cells #[.string nm, .string so, .slice a L.length cap] 25)).alloc (.cells #[.string nm, .bool (!decide (so = nul)), .slice none 0 0] 144)) N L b (.slice none 0 0) N B [] 0 N.length) := Lib.hid ⟨((hO.reserve).ext HZ.out).weaken (fun j hj => by
      rcases hj with hj | hj | hj
      · exact .inl hj
      · exact .inr hj.1
      · simp [Value.ownBlock] at hj), ⟨rfl, .inl ⟨rfl, rfl⟩⟩, rfl, rfl, fun q hq => by simp at hq, fun j hj => .inl hj, HZ.out.mono (fun _ _ x => x.elim), by simp, List.prefix_refl _, Nat.le_refl _, rfl, hbase, hR, fun j hj => ⟨(ord_lt hO j hj).1, (ord_lt hO j hj).2.1⟩⟩
  have HB0 := Lib.hid hbase
  have HRR := Lib.hid hR
  clear hO hbase hR
  have hon := HNM.out (.mk nm so L) (mem_sbts_self _)
  obtain ⟨hn1, hn2, hn3, hn4, hn5⟩ := hon
  simp only [Tm.name, Tm.sort] at hn1 hn2 hn3 hn4 hn5
  have HOK := Lib.hid (And.intro hn1 (And.intro hn2 hn3))
  have s1 : ¬ 9223372036854775807 < ByteArray.size nm + 1 := by omega
  have s2 : ¬ 9223372036854775807 < ByteArray.size nm + 1 + ByteArray.size so := by omega
  have s3 := empty_dec so
  have HN45 := Lib.hid (And.intro hn4 hn5)
  clear hn1 hn2 hn3 hn4 hn5
  have t0 := cellRow HBT.out 0 (.string nm) rfl
  go_enter Tryz.func77, Tryz.ntmps77
  go_wp2_with fail
  clear s1 s2 s3 t0
  go_loopg [6, 27] L.length (fun gk keyv iv wr => ∃ (k : Nat) (kidv : Value) (Nk : List Nt) (Bk : Nat → Prop) (ks : List Nat), keyv = .string (keyK nm so ks) ∧ iv = .int .i64 (k : Int) ∧ gk = L.length - k ∧ k ≤ L.length ∧ Hid (NumJ ops R B base w.heap.size w wr N L b kidv Nk Bk ks k (N.length + sizes (L.take k))) ∧ Hid (wr.heap[w.heap.size]? = some (.cells #[.string nm, .string so, .slice a L.length cap] 25 (0, 0))) ∧ Hid (wr.heap[w.heap.size + 1]? = some (.cells #[.string nm, .bool (!decide (so = nul)), kidv] 144 (0, 0))))
  case atStart => exact ⟨0, _, N, B, [], rfl, rfl, rfl, Nat.zero_le _, HJ, HBT, HBN⟩
  case round =>
    clear HJ HBT HBN
    obtain ⟨k, kidv, Nk, Bk, ks, rfl, rfl, rfl, hk, HJ, HBT, HBN⟩ := hrel
    obtain ⟨ia, ic, hi1⟩ := own_shape HJ.out.own
    subst hi1
    by_cases hlt : k < L.length
    · obtain ⟨g, off, rfl, _, hat⟩ := (HTL.out.kept HJ.out.upd (fun j hj hx => by have := HTb.out j hj; have := (HJ.out.bb j hx).1; omega)).at_ (by omega)
      obtain ⟨xa, xc, q0, q1, q2, hkid⟩ := hat k hlt
      have z0 : (0 : Int) ≤ (k : Int) := by omega
      have z1 : (k : Int) < (L.length : Int) := by omega
      have z2 : decide ((k : Int) < (L.length : Int)) = true := decide_eq_true z1
      have z2' : decide (k < L.length) = true := decide_eq_true hlt
      have hmem := tg_mem L k hlt
      have hst := sizes_take L k hlt
      have hsl := sizes_take_le L (k + 1)
      have hcn := HJ.out.cnt
      have HIX := Lib.hid (fun W (hW : Ext wr W) => HIH.out (tg L k) hmem Nk _ _ Bk T W (HJ.out.ord.ext hW) (TmR.ext ⟨xa, xc, rfl, hkid⟩ hW) HTb.out (by have := hW.size; have := HJ.out.size; have := HJ.out.bn; omega) (fun j hj => by
        rcases hj with hj | hj | hj
        · have := HJ.out.rb j hj; have := HJ.out.size; have := hW.size; omega
        · have := HJ.out.bn; have := HJ.out.size; have := hW.size; omega
        · have := HJ.out.own.lt j hj; have := HJ.out.bn; have := hW.size; omega) (by have := HR0.out; omega) (fun y hy => HNM.out y (by rw [sbts_eq]; exact List.mem_cons_of_mem _ (List.mem_flatMap.2 ⟨_, hmem, hy⟩)))
        (fun W2 hW2 => HPW.out W2 (((HJ.out.upd.mono (fun j _ hj => (HJ.out.bb j hj).1)).ext hW).trans hW2)))
      dsimp only [tV] at HIX
      have HCN : Hid (Nk.length + (tg L k).size ≤ N.length + sizes (L.take (k + 1))) := Lib.hid (by omega)
      obtain ⟨x, hx⟩ : ∃ x, tg L k = x := ⟨_, rfl⟩
      have HX := Lib.hid hx
      rw [hx] at q0 q1 q2 HIX HCN
      rw [← Nat.add_assoc] at q1 q2
      have hal : Ext wr (wr.alloc (.cells #[.string x.name, .string x.sort, .slice xa x.kids.length xc] 25)) := (Upd.refl _ wr).alloc _
      have HAL := Lib.hid hal
      have e0 := cellRow (alloc0 wr (.cells #[.string x.name, .string x.sort, .slice xa x.kids.length xc] 25)) 0 (.string x.name) rfl
      have e1 := cellRow (alloc0 wr (.cells #[.string x.name, .string x.sort, .slice xa x.kids.length xc] 25)) 1 (.string x.sort) rfl
      have e2 := cellRow (alloc0 wr (.cells #[.string x.name, .string x.sort, .slice xa x.kids.length xc] 25)) 2 (.slice xa x.kids.length xc) rfl
      clear hmem hst hsl hcn hx hat hkid hal
      go_wp2_with fail
      refine (HIX.out _ HAL.out).mono ?_
      rintro e w5 ⟨q, N', B', rfl, ho5, hu5, hb5, hp5, hc5, hq5, hx5⟩
      have HJ5 := Lib.hid ((HJ.out.ext HAL.out).call ho5 hu5 hb5 hp5 (Nat.le_trans hc5 HCN.out))
      have HQ5 := Lib.hid (And.intro hq5 hx5)
      have HBT5 := Lib.hid (hu5.heap (allocOld HBT.out _) (fun h => (HJ.out.resB _ h).1 (by omega)))
      have HBN5 := Lib.hid (hu5.heap (allocOld HBN.out _) (fun h => (HJ.out.resB _ h).1 (by omega)))
      clear ho5 hu5 hb5 hp5 hc5 hq5 hx5 HIX HAL HJ HBT HBN q0 q1 q2 e0 e1 e2 HTL HIH
      have n2 := cellRow HBN5.out 2 (.slice ia k ic) rfl
      have fn5 := fun i => frozenRow HBN5.out i
      have hs5 : w.heap.size + 2 ≤ w5.heap.size := HJ5.out.size
      obtain ⟨iI, hi, hz0, hz1, hz2⟩ := info_parts infoI
      go_wp2_with (at_builtin; refine wpList_append_at _ rfl (.tmp 35) (.tmp 37) 59 rfl (w.heap.size + 2) 3 iI (.int .i64 0) 1 8 Tryz.underlying59 hi hz0 hz1 hz2 rfl (by decide) _ _ _ rfl (HJ5.out.own.alloc _) _ 1 1 [natV q] rfl rfl ?c1 ?c2 ?c3 ?c4 ?c5 ?_)
      case c1 =>
        intro l u hl
        match l, hl with
        | 0, hl => simp only [List.getElem?_cons_zero, Option.some.injEq] at hl; subst hl; simp only [Addr.add]; exact cellRow (alloc_at _ _ (by simp)) 0 _ rfl
      case c2 => intro u hu; simp at hu; subst hu; rfl
      case c3 => unfold maxLen; omega
      case c4 => omega
      case c5 => simp; omega
      intro v8 w8 hG
      obtain ⟨i8, c8, rfl⟩ := own_shape hG.own
      have hkn : ∀ j, j < w.heap.size + 2 → ¬ ((Value.slice ia k ic).ownBlock = some j) := fun j hj e => by have := (HJ5.out.own.lt j e).1; omega
      have HBN8 := Lib.hid (hG.upd.heap (allocOld HBN5.out _) (hkn _ (by omega)))
      have HBT8 := Lib.hid (hG.upd.heap (allocOld HBT5.out _) (hkn _ (by omega)))
      have HS9 : Hid (Upd (fun j => j = w.heap.size + 1) w8 (w8.setCell ⟨w.heap.size + 1, 2, none⟩ (.slice i8 (k + 1) c8))) := Lib.hid ((Upd.refl (fun j => j = w.heap.size + 1) w8).setCell (p := ⟨w.heap.size + 1, 2, none⟩) (.inl rfl) _)
      have HJ9 := Lib.hid (HJ5.out.grow ((Upd.refl (fun _ => False) _).alloc _) hG HS9.out HQ5.out.1 hlt (by rw [HQ5.out.2, HX.out]))
      have HBN9 := Lib.hid (setBlock HBN8.out 2 (.slice i8 (k + 1) c8))
      have HBT9 := Lib.hid (HS9.out.heap HBT8.out (by omega))
      have hqb : q < 100000 := by have h1 := HQ5.out.1; have h2 := HJ5.out.cnt; have h3 := HR0.out; have h4 := sizes_take_le L (k + 1); omega
      have HIT := Lib.hid (itoa_x q _ (by omega) (HPW.out _ (HJ9.out.upd.mono (fun j _ hj => (HJ9.out.bb j hj).1))))
      have n8 := cellRow HBN8.out 2 (.slice ia k ic) rfl
      have fn8 := fun i => frozenRow HBN8.out i
      have hky := key_size nm so ks (fun p hp => by have h1 := HJ5.out.lt p hp; have h2 := HJ5.out.cnt; have h3 := HR0.out; have h4 := sizes_take_le L (k + 1); omega)
      have hns := nstr_size q
      have hkl := HJ5.out.len
      have h45 := HN45.out
      have s4 : ¬ 9223372036854775807 < 1 + ByteArray.size (nstr q) := by omega
      have s5 : ¬ 9223372036854775807 < ByteArray.size (keyK nm so ks) + (1 + ByteArray.size (nstr q)) := by omega
      have HKY : Hid (keyK nm so ks ++ (spB ++ nstr q) = keyK nm so (ks ++ [q])) := Lib.hid (keyK_snoc _ _ _ _).symm
      clear hG hkn hky hns hkl h45 n2 fn5 HBN5 HBT5 HJ5 hi hz0 hz1 hz2
      go_wp2_with fail
      refine HIT.out.mono ?_
      rintro e w10 ⟨rfl, hw10⟩
      have HJ10 := Lib.hid (HJ9.out.ext hw10)
      have HBN10 := Lib.hid (hw10.heap HBN9.out (fun h => h))
      have HBT10 := Lib.hid (hw10.heap HBT9.out (fun h => h))
      clear hw10 n8 fn8 HIT HJ9 HBN9 HBT9 HBN8 HBT8 HS9
      go_wp2_with fail
      go_roundg (L.length - (k + 1))
      case measure => omega
      case rel => exact ⟨k + 1, _, N', _, ks ++ [q], by rw [← HKY.out]; rfl, by go_num, rfl, by omega, HJ10, HBT10, HBN10⟩
    · obtain rfl : k = L.length := by omega
      have z2 : decide ((L.length : Int) < (L.length : Int)) = false := decide_eq_false (by omega)
      obtain ⟨nv, br, bk, bd, us, G, rl, kl, dl, hX⟩ := HJ.out.ord
      obtain ⟨na, nc, hnv⟩ := own_shape hX.own
      subst hnv
      have o2 := cellRow hX.box 2 (.map (some bk)) rfl
      have hl := MpR.get (P := Tryz.prog) (t := 110) (strKey Tryz.underlying9) Tryz.underlying110 (z := .int .i64 0) (Tryz.zeroValue3 wr) hX.known (keyK nm so ks) true
      simp only [if_true] at hl
      have HX := Lib.hid hX
      have HON := Lib.hid (HNM.out (.mk nm so L) (mem_sbts_self _))
      have HCT : Hid (N.length + sizes (L.take L.length) + 1 = N.length + (Tm.mk nm so L).size) := Lib.hid (by rw [List.take_length, HSZ.out]; omega)
      cases hf : afind kl (keyK nm so ks) with
      | some v =>
        rw [hf] at hl
        obtain ⟨i, hi, hv, he⟩ := hX.found (t := .mk nm so L) (ks := ks) (by rw [HJ.out.map, List.take_length]; rfl) ⟨HON.out.1, HON.out.2.1⟩ hf
        subst hv
        simp only [Option.getD_some, Option.isSome_some] at hl
        have HI := Lib.hid (And.intro hi he)
        clear hX hf hi he
        go_wp2_with fail
        go_ret
        refine ⟨i, Nk, Bk, rfl, ⟨_, _, _, _, _, _, _, _, _, HX.out.weaken (fun j hj => .inl hj)⟩, HJ.out.upd, fun j hj => (HJ.out.blk j hj).imp id (fun e => by omega), HJ.out.pre, ?_, HI.out.1, HI.out.2⟩
        have h1 := HJ.out.cnt
        have h2 := HCT.out
        omega
      | none =>
        rw [hf] at hl
        simp only [Option.getD_none, Option.isSome_none] at hl
        have HF := Lib.hid hf
        have o1 := cellRow hX.box 1 (.slice na Nk.length nc) rfl
        obtain ⟨W2, hput, hmp2, hu2⟩ := MpR.put (P := Tryz.prog) (t := 110) (strKey Tryz.underlying9) Tryz.underlying110 (show MpR strV wr.drew bk kl from hX.known) (keyK nm so ks) (natV Nk.length)
        have HM2 := Lib.hid hmp2
        have HU2 : Hid (Upd (fun j => j = bk) wr W2) := Lib.hid (Upd.ofDrew hu2)
        have hnl : Nk.length ≤ 100000 := by have h1 := HJ.out.cnt; have h2 := HR0.out; have h3 := sizes_take_le L L.length; omega
        have hszr := HJ.out.size
        have hbn := HJ.out.bn
        clear hX hf hmp2 hu2
        go_wp2_with fail
        go_still_tail 10, (by kernel_rfl)
        change wpList _ _ _ _ _ wr.drew
        go_wp2_with fail
        have HB2 := Lib.hid (HU2.out.heap HX.out.box (fun e => HX.out.dis.2.1 e))
        have HN2 := Lib.hid (HU2.out.heap HBN.out (fun e => (HJ.out.resB _ HX.out.bb.2.2.1).1 (by omega)))
        have HOWN : Hid ((W2.alloc (.cells #[.string nm, .bool (!decide (so = nul)), .slice ia L.length ic] 144)).drew.ownsRow base 144 3 (.slice na Nk.length nc) Nk.length (nCells Nk us)) := Lib.hid (own_kept HX.out.own (HU2.out.ext ((Upd.refl (fun _ => False) W2).alloc _)).drew (fun k hk e => HX.out.dn.2.2.1 (by rw [← e]; exact hk)))
        have HSW := Lib.hid (show base ≤ W2.heap.size from by have := HU2.out.size; omega)
        have HNEW : Hid (∀ (j : Nat) (u : Value), [Value.string nm, .bool (!decide (so = nul)), .slice ia L.length ic][j]? = some u → (W2.alloc (.cells #[.string nm, .bool (!decide (so = nul)), .slice ia L.length ic] 144)).drew.cell? ((⟨W2.heap.size, 0, none⟩ : Addr).add j) = some u) := Lib.hid (fun j u hj => by
          match j, hj with
          | 0, hj => simp only [List.getElem?_cons_zero, Option.some.injEq] at hj; subst hj; simp only [Addr.add]; exact cellRow (w := W2.alloc (.cells #[.string nm, .bool (!decide (so = nul)), .slice ia L.length ic] 144)) (alloc0 _ _) 0 _ rfl
          | 1, hj => simp at hj; subst hj; simp only [Addr.add]; exact cellRow (w := W2.alloc (.cells #[.string nm, .bool (!decide (so = nul)), .slice ia L.length ic] 144)) (alloc0 _ _) 1 _ rfl
          | 2, hj => simp at hj; subst hj; simp only [Addr.add]; exact cellRow (w := W2.alloc (.cells #[.string nm, .bool (!decide (so = nul)), .slice ia L.length ic] 144)) (alloc0 _ _) 2 _ rfl)
        have HONE : Hid (∀ u ∈ [Value.string nm, .bool (!decide (so = nul)), .slice ia L.length ic], u.oneCell' = true) := Lib.hid (fun u hu => by simp at hu; rcases hu with h | h | h <;> (subst h; rfl))
        have HLM : Hid (Nk.length + 1 ≤ maxLen ∧ (Nk.length + 1) * 48 ≤ 140737488355328 ∧ base ≤ (W2.alloc (.cells #[.string nm, .bool (!decide (so = nul)), .slice ia L.length ic] 144)).drew.heap.size) := Lib.hid ⟨by unfold maxLen; omega, by omega, by have := HSW.out; simp; omega⟩
        have b1 := cellRow HB2.out 1 (.slice na Nk.length nc) rfl
        have m0 := cellRow HN2.out 0 (.string nm) rfl
        have m1 := cellRow HN2.out 1 (.bool (!decide (so = nul))) rfl
        have m2 := cellRow HN2.out 2 (.slice ia L.length ic) rfl
        have eb1 := World.new_ne W2 _ b1
        have em0 := World.new_ne W2 _ m0
        have em1 := World.new_ne W2 _ m1
        have em2 := World.new_ne W2 _ m2
        have HQ1 : Hid (¬ (Value.slice na Nk.length nc).ownBlock = some b) := Lib.hid HX.out.dn.1
        have HQ2 : Hid (¬ (Value.slice na Nk.length nc).ownBlock = some (w.heap.size + 1)) := Lib.hid (fun e => (HJ.out.resB _ (HX.out.bn _ e)).1 (by omega))
        obtain ⟨iN, hi, hz0, hz1, hz2⟩ := info_parts infoN
        clear hput hl o1 o2
        have ab1 : (W2.alloc (.cells #[.string nm, .bool (!decide (so = nul)), .slice ia L.length ic] 144)).cell? ⟨b, 1, none⟩ = some (.slice na Nk.length nc) := cellRow (allocOld HB2.out (.cells #[.string nm, .bool (!decide (so = nul)), .slice ia L.length ic] 144)) 1 _ rfl
        go_region_law (refine step_append_at _ (.tmp 71) (.tmp 73) 112 rfl base 144 iN (.agg #[.string ⟨#[]⟩, .bool false, .slice none 0 0]) 3 48 Tryz.underlying112 hi hz0 hz1 hz2 rfl (by decide) _ _ _ rfl HOWN.out _ 1 1 _ rfl rfl HNEW.out HONE.out HLM.out.1 HLM.out.2.1 HLM.out.2.2 ?_; intro v7 w7 hG1; obtain ⟨a7, c7, hv7⟩ := own_shape hG1.own; subst hv7; have fb7 := fun i => frozenRow (hG1.upd.heap (show (W2.alloc (.cells #[.string nm, .bool (!decide (so = nul)), .slice ia L.length ic] 144)).drew.heap[b]? = _ from allocOld HB2.out _) HQ1.out) i; have db7 := cellRow (hG1.upd.heap (show (W2.alloc (.cells #[.string nm, .bool (!decide (so = nul)), .slice ia L.length ic] 144)).drew.heap[b]? = _ from allocOld HB2.out _) HQ1.out) 1 (.slice na Nk.length nc) rfl; have hG1' := Lib.hid hG1; clear hG1)
        all_goals (try (go_wp2_with fail))
        all_goals go_ret
        all_goals (
          have hbox := setBlock (hG1'.out.upd.heap (show (W2.alloc (.cells #[.string nm, .bool (!decide (so = nul)), .slice ia L.length ic] 144)).drew.heap[b]? = _ from allocOld HB2.out _) HQ1.out) 1 (.slice a7 (Nk.length + 1) c7)
          obtain ⟨N', B', k1, k2, k3, k4, k5, k6, k7⟩ := HJ.out.fin HX.out HON.out (by omega) HF.out HU2.out HM2.out (((Upd.refl (fun _ => False) W2).alloc (.cells #[.string nm, .bool (!decide (so = nul)), .slice ia L.length ic] 144)).drew) hG1'.out ((Upd.refl (fun j => j = b) w7).setCell (p := ⟨b, 1, none⟩) (.inl rfl) (.slice a7 (Nk.length + 1) c7)) hbox
          exact ⟨Nk.length, rfl, N', B', k1, k2, k3, k4, by have h9 := HCT.out; omega, k6, k7⟩)

end Go.Proofs.YtiimccogojkldaaGreatDoor

/- The order: compare and a new order. -/
namespace Go.Proofs.YtiimccogojkldaaGreatDoor
open Go.RowKit Go.Hw Go
set_option linter.unusedVariables false
set_option linter.unusedSimpArgs false

open Tm
theorem ord_kb {ops : List By} {R B : Nat → Prop} {base b : Nat} {w : World} {N : List Nt} (h : OrdR 144 114 ops R B base w b N) : ∀ i, i < N.length → (ng N i).2.length ≤ 1000000 := by
  obtain ⟨nv, br, bk, bd, us, G, rl, kl, dl, h⟩ := h
  exact h.kb
set_option maxRecDepth 100000 in
set_option maxHeartbeats 2000000 in
theorem ocomp_x (ops : List By) (base b : Nat) (N : List Nt) (a c : Tm) (va vc : Value) (B T : Nat → Prop) (w : World) (hO : OrdR 144 114 ops (fun _ => False) B base w b N) (ha : TmR T w a va) (hc : TmR T w c vc) (hT : ∀ k, T k → k < base) (hb : base ≤ w.heap.size) (hsz : N.length + a.size + c.size ≤ 100000)
    (hna : ∀ x ∈ sbts a, OkN ops x) (hnc : ∀ x ∈ sbts c, OkN ops x) (hpow : ∀ W, Upd (fun j => base ≤ j) w W → Lib.TabIs Tryz.prog W "internal/strconv.uint64pow10" .u64 Lib.pow10Tab) :
    Calls Tryz.prog 43 #[.pointer (some ⟨b, 0, none⟩), va, vc] w fun e w' => ∃ N' B', e = .returned (.bool (gt (ixF ops) a c)) ∧ OrdR 144 114 ops (fun _ => False) B' base w' b N' ∧ Upd B w w' ∧ (∀ j, B' j → B j ∨ w.heap.size ≤ j) ∧ N'.length ≤ N.length + a.size + c.size := by
  obtain ⟨aa, ac, rfl, ha⟩ := ha
  obtain ⟨ca, cc, rfl, hc⟩ := hc
  dsimp only [tV]
  have HTA : Hid (TmR T w a (tV a (.slice aa a.kids.length ac))) := Lib.hid ⟨aa, ac, rfl, ha⟩
  have HTC : Hid (TmR T w c (tV c (.slice ca c.kids.length cc))) := Lib.hid ⟨ca, cc, rfl, hc⟩
  have HOO := Lib.hid hO
  have HLT := Lib.hid (ord_lt hO)
  have HBS := Lib.hid hb
  have HTT := Lib.hid hT
  have HPW := Lib.hid hpow
  have HSZ := Lib.hid hsz
  have HZ : Hid (Ext w ((w.alloc (.cells #[.string a.name, .string a.sort, .slice aa a.kids.length ac] 25)).alloc (.cells #[.string c.name, .string c.sort, .slice ca c.kids.length cc] 25))) := Lib.hid (((Upd.refl (fun _ => False) w).alloc _).alloc _)
  have hbA : ((w.alloc (.cells #[.string a.name, .string a.sort, .slice aa a.kids.length ac] 25)).alloc (.cells #[.string c.name, .string c.sort, .slice ca c.kids.length cc] 25)).heap[w.heap.size]? = some (.cells #[.string a.name, .string a.sort, .slice aa a.kids.length ac] 25 (0, 0)) := allocOld (alloc0 w (.cells #[.string a.name, .string a.sort, .slice aa a.kids.length ac] 25)) (.cells #[.string c.name, .string c.sort, .slice ca c.kids.length cc] 25)
  have hbB : ((w.alloc (.cells #[.string a.name, .string a.sort, .slice aa a.kids.length ac] 25)).alloc (.cells #[.string c.name, .string c.sort, .slice ca c.kids.length cc] 25)).heap[w.heap.size + 1]? = some (.cells #[.string c.name, .string c.sort, .slice ca c.kids.length cc] 25 (0, 0)) := alloc_at (w.alloc (.cells #[.string a.name, .string a.sort, .slice aa a.kids.length ac] 25)) (.cells #[.string c.name, .string c.sort, .slice ca c.kids.length cc] 25) (n := w.heap.size + 1) (by simp)
  have hs2 : ((w.alloc (.cells #[.string a.name, .string a.sort, .slice aa a.kids.length ac] 25)).alloc (.cells #[.string c.name, .string c.sort, .slice ca c.kids.length cc] 25)).heap.size = w.heap.size + 2 := by simp
  have hbd : ∀ j, B j → base ≤ j := fun j hj => (ord_lt hO j hj).1
  have HA := Lib.hid (fun W (hW : Ext w W) => number_x ops base b a N _ (fun _ => False) B T W (hO.ext hW) (TmR.ext ⟨aa, ac, rfl, ha⟩ hW) hT (Nat.le_trans hb hW.size) (fun j h => h.elim) (by omega) hna (fun W2 h2 => hpow W2 ((hW.mono (fun _ _ x => x.elim)).trans h2)))
  have HC := Lib.hid (fun W (hW : Upd (fun j => base ≤ j) w W) N' B' (ho : OrdR 144 114 ops (fun _ => False) B' base W b N') (hl : N'.length ≤ N.length + a.size) => number_x ops base b c N' _ (fun _ => False) B' T W ho (TmR.kept ⟨ca, cc, rfl, hc⟩ hW (fun k hk h => by have := hT k hk; omega)) hT (Nat.le_trans hb hW.size) (fun j h => h.elim) (by omega) hnc (fun W2 h2 => hpow W2 (hW.trans h2)))
  have HG := Lib.hid (fun W N' B' (ho : OrdR 144 114 ops (fun _ => False) B' base W b N') (hl : N'.length ≤ 100000) i j (hi : i < N'.length) (hj : j < N'.length) V (hv : gt (ixF ops) (ng N' i).1 (ng N' j).1 = V) => show Calls Tryz.prog 76 #[.pointer (some ⟨b, 0, none⟩), natV i, natV j] W fun e W' => e = .returned (.bool V) ∧ OrdR 144 114 ops (fun _ => False) B' base W' b N' ∧ Upd B' W W' from hv ▸ greater_x ops (fun _ => False) B' base b N' hl (ord_kb ho) (i + j + 1) i j (Nat.lt_succ_self _) hi hj W ho)
  dsimp only [tV] at HA HC
  have HBD := Lib.hid hbd
  clear hO ha hc hT hb hsz hna hnc hpow hbd
  go_enter Tryz.func43, Tryz.ntmps43
  go_wp2_with fail
  generalize hw3 : ((w.alloc (.cells #[.string a.name, .string a.sort, .slice aa a.kids.length ac] 25)).alloc (.cells #[.string c.name, .string c.sort, .slice ca c.kids.length cc] 25)) = w3 at *
  have HS2 := Lib.hid hs2
  clear hw3 hs2
  have b0 := cellRow hbA 0 (.string a.name) rfl
  have b1 := cellRow hbA 1 (.string a.sort) rfl
  have b2 := cellRow hbA 2 (.slice aa a.kids.length ac) rfl
  have c0 := cellRow hbB 0 (.string c.name) rfl
  have c1 := cellRow hbB 1 (.string c.sort) rfl
  have c2 := cellRow hbB 2 (.slice ca c.kids.length cc) rfl
  have HA3 := Lib.hid (HA.out w3.drew HZ.out.drew)
  have HBA := Lib.hid hbA
  have HBB := Lib.hid hbB
  have HU3 : Hid (Upd B w w3.drew) := Lib.hid ((HZ.out.mono (fun _ _ x => x.elim)).drew)
  clear hbA hbB
  go_region_held3 (fun w' => w'.cell? ⟨w.heap.size, 0, none⟩ = some (.string a.name) ∧ w'.cell? ⟨w.heap.size, 1, none⟩ = some (.string a.sort) ∧ w'.cell? ⟨w.heap.size, 2, none⟩ = some (.slice aa a.kids.length ac) ∧ w'.cell? ⟨w.heap.size + 1, 0, none⟩ = some (.string c.name) ∧ w'.cell? ⟨w.heap.size + 1, 1, none⟩ = some (.string c.sort) ∧ w'.cell? ⟨w.heap.size + 1, 2, none⟩ = some (.slice ca c.kids.length cc))
    (first | go_keep | exact ⟨cellRow hbA 0 (.string a.name) rfl, cellRow hbA 1 (.string a.sort) rfl, cellRow hbA 2 (.slice aa a.kids.length ac) rfl, cellRow hbB 0 (.string c.name) rfl, cellRow hbB 1 (.string c.sort) rfl, cellRow hbB 2 (.slice ca c.kids.length cc) rfl⟩)
    (first
      | (go_at_call 77; refine (HC.out _ (HU5.out.mono (fun j _ hj => HBD.out j hj)) N5 B5 HX5.out.1 HX5.out.2.2.1).mono ?_; rintro e w6 ⟨q6, N6, B6, rfl, ho6, hu6, hb6, hp6, hc6, hq6, hx6⟩; have HN5 : Hid (∀ j, j < w3.heap.size → B5 j → B j) := Lib.hid (fun j hj h => (HX5.out.2.1 j h).elim id (fun e => absurd hj (by have e' : w3.heap.size ≤ j := e; omega))); have hbA := hu6.heap HBA5.out (fun h => by have h1 := HN5.out _ (by have := HS2.out; omega) h; have := (HLT.out _ h1).2.1; omega); have hbB := hu6.heap HBB5.out (fun h => by have h1 := HN5.out _ (by have := HS2.out; omega) h; have := (HLT.out _ h1).2.1; omega); have HBA6 := Lib.hid hbA; have HBB6 := Lib.hid hbB; have HU6 := Lib.hid (HU5.out.trans' hu6 (fun j hj h => HN5.out j (by have := HS2.out; omega) h)); have HX6 := Lib.hid (And.intro ho6 (And.intro hb6 (And.intro hc6 (And.intro hq6 (And.intro hx6 hp6))))); clear ho6 hu6 hb6 hp6 hc6 hq6 hx6)
      | (go_at_call 77; refine HA3.out.mono ?_; rintro e w5 ⟨q5, N5, B5, rfl, ho5, hu5, hb5, hp5, hc5, hq5, hx5⟩; have hbA := hu5.heap HBA.out (fun h => by have := (HLT.out _ h).2.1; omega); have hbB := hu5.heap HBB.out (fun h => by have := (HLT.out _ h).2.1; omega); have HBA5 := Lib.hid hbA; have HBB5 := Lib.hid hbB; have HU5 := Lib.hid (HU3.out.trans hu5); have HS5 := Lib.hid (show w3.heap.size ≤ w5.heap.size from hu5.size); have HX5 := Lib.hid (And.intro ho5 (And.intro hb5 (And.intro hc5 (And.intro hq5 hx5)))); clear ho5 hu5 hb5 hp5 hc5 hq5 hx5)
      | (go_at_call 76; refine (HG.out _ N6 B6 HX6.out.1 (by have h1 := HX6.out.2.2.1; have h2 := HX5.out.2.2.1; have h3 := HSZ.out; omega) q5 q6 (Nat.lt_of_lt_of_le HX5.out.2.2.2.1 HX6.out.2.2.2.2.2.length_le) HX6.out.2.2.2.1 (gt (ixF ops) a c) (by rw [ng_pre HX6.out.2.2.2.2.2 HX5.out.2.2.2.1, HX5.out.2.2.2.2, HX6.out.2.2.2.2.1])).mono ?_; rintro e w7 ⟨rfl, ho7, hu7⟩; have hbA := hu7.heap HBA6.out (fun h => by have h2 := HX6.out.2.1 _ h; rcases h2 with h2 | h2; (have h1 := HN5.out _ (by have := HS2.out; omega) h2; have := (HLT.out _ h1).2.1; omega); (have := HS5.out; have := HS2.out; omega)); have hbB := hu7.heap HBB6.out (fun h => by have h2 := HX6.out.2.1 _ h; rcases h2 with h2 | h2; (have h1 := HN5.out _ (by have := HS2.out; omega) h2; have := (HLT.out _ h1).2.1; omega); (have := HS5.out; have := HS2.out; omega)); have HX7 := Lib.hid (And.intro ho7 hu7); clear ho7 hu7))
  all_goals (try (go_wp2_with fail))
  all_goals go_ret
  all_goals (
    have h6b : ∀ j, j < w3.heap.size → B6 j → B j := fun j hj h => (HX6.out.2.1 j h).elim (fun h => HN5.out j hj h) (fun e => absurd hj (by have := HS5.out; omega))
    refine ⟨N6, B6, rfl, HX7.out.1, HU6.out.trans' HX7.out.2 (fun j hj h => h6b j (by have := HS2.out; omega) h), fun j h => ?_, by have h1 := HX6.out.2.2.1; have h2 := HX5.out.2.2.1; omega⟩
    rcases HX6.out.2.1 j h with h1 | h1
    · rcases HX5.out.2.1 j h1 with h2 | h2
      · exact .inl h2
      · have h3 : w3.heap.size ≤ j := h2
        exact .inr (by have := HS2.out; omega)
    · exact .inr (by have := HS5.out; have := HS2.out; omega))
set_option maxRecDepth 100000 in
set_option maxHeartbeats 2000000 in
theorem newO_x (ops : List By) (ov : Value) (S : Nat → Prop) (base : Nat) (w : World) (hO : StR S w ov ops) (hS : ∀ k, S k → k < w.heap.size) (hd : Dif ops) (hb : base ≤ w.heap.size) (hol : ops.length ≤ 1000000) :
    Calls Tryz.prog 42 #[ov] w fun e w' => ∃ b B, e = .returned (.pointer (some ⟨b, 0, none⟩)) ∧ OrdR 144 114 ops (fun _ => False) B base w' b [] ∧ Ext w w' ∧ (∀ j, B j → w.heap.size ≤ j) := by
  obtain ⟨a, cap, rfl⟩ := SlR.shape hO
  have HO := Lib.hid hO
  have HD := Lib.hid hd
  have HB := Lib.hid hb
  have hmm := @run_makeMap Tryz.prog
  obtain ⟨n1, hn1⟩ : ∃ n, w.heap.size = n := ⟨_, rfl⟩
  obtain ⟨w5, hw5⟩ : ∃ W, (((w.alloc (.map #[] 0)).alloc (.map #[] 0)).alloc (.map #[] 0)).alloc (.cells #[.map (some w.heap.size), .slice none 0 0, .map (some (w.heap.size + 1)), .map (some (w.heap.size + 1 + 1))] 114) = W := ⟨_, rfl⟩
  have HE5 : Hid (Ext w w5) := Lib.hid (by rw [← hw5]; exact ((((Upd.refl (fun _ => False) w).alloc _).alloc _).alloc _).alloc _)
  have HM1 : Hid (MpR strV w5 w.heap.size []) := Lib.hid (by rw [← hw5]; exact ⟨#[], 0, allocOld (allocOld (allocOld (alloc0 w _) _) _) _, rfl, List.Pairwise.nil, fun _ h => by cases h⟩)
  have HM2 : Hid (MpR strV w5 (w.heap.size + 1) []) := Lib.hid (by rw [← hw5]; exact ⟨#[], 0, allocOld (allocOld (alloc_at _ _ (by simp)) _) _, rfl, List.Pairwise.nil, fun _ h => by cases h⟩)
  have HM3 : Hid (MpR pairV w5 (w.heap.size + 1 + 1) []) := Lib.hid (by rw [← hw5]; exact ⟨#[], 0, allocOld (alloc_at _ _ (by simp)) _, rfl, List.Pairwise.nil, fun _ h => by cases h⟩)
  have HBX : Hid (w5.heap[w.heap.size + 1 + 1 + 1]? = some (.cells #[.map (some w.heap.size), .slice none 0 0, .map (some (w.heap.size + 1)), .map (some (w.heap.size + 1 + 1))] 114 (0, 0))) := Lib.hid (by rw [← hw5]; exact alloc_at _ _ (by simp))
  clear hO hd hb hn1
  go_enter Tryz.func42, Tryz.ntmps42
  go_wp2_with fail
  clear hmm
  have HW5 := Lib.hid hw5
  clear hw5
  go_loopg [13] ops.length (fun gk iv wr => ∃ (k : Nat) (rl : List (By × Value)), iv = .int .i64 (k : Int) ∧ gk = ops.length - k ∧ k ≤ ops.length ∧ Hid (MpR strV wr w.heap.size rl) ∧ Hid (∀ s ∈ ops.take k, afind rl s = some (natV (ixF ops s))) ∧ Hid (Upd (fun j => j = w.heap.size) w5 wr))
  case atStart => exact ⟨0, [], rfl, rfl, Nat.zero_le _, HM1, Lib.hid (fun s hs => by simp at hs), Lib.hid (Upd.refl _ _)⟩
  case round =>
    obtain ⟨k, rl, rfl, rfl, hk, HR, HF, HU⟩ := hrel
    have HBr := Lib.hid (HU.out.heap HBX.out (by omega))
    have o0 := cellRow HBr.out 0 (.map (some w.heap.size)) rfl
    by_cases hlt : k < ops.length
    · obtain ⟨g, off, hga, hSg, hat⟩ := SlR.one_at (d := nul) (SlR.kept HO.out HE5.out (fun _ _ h => h)) (by omega)
      subst hga
      have q0 := HU.out.cell (hat k hlt) (fun e => by have := hS _ hSg; simp only at e; omega)
      have z0 : (0 : Int) ≤ (k : Int) := by omega
      have z1 : (k : Int) < (ops.length : Int) := by omega
      have z2 : decide ((k : Int) < (ops.length : Int)) = true := decide_eq_true z1
      have HST := Lib.hid (rank_step HD.out hlt HF.out)
      obtain ⟨x, hx⟩ : ∃ x, ops.getD k nul = x := ⟨_, rfl⟩
      rw [hx] at q0 HST
      obtain ⟨W2, hput, hmp2, hu2⟩ := MpR.put (P := Tryz.prog) (t := 110) (strKey Tryz.underlying9) Tryz.underlying110 HR.out x (natV k)
      have HM := Lib.hid hmp2
      have HU2 : Hid (Upd (fun j => j = w.heap.size) w5 W2) := Lib.hid (HU.out.trans hu2)
      clear hmp2 hu2 hx hat
      go_wp2_with fail
      go_roundg (ops.length - (k + 1))
      case measure => omega
      case rel => exact ⟨k + 1, _, by go_num, rfl, by omega, HM, HST, HU2⟩
    · obtain rfl : k = ops.length := by omega
      have z2 : decide ((ops.length : Int) < (ops.length : Int)) = false := decide_eq_false (by omega)
      have HFF := HF.out
      rw [List.take_length] at HFF
      have HFX := Lib.hid HFF
      clear HFF
      go_wp2_with fail
      go_ret
      have hwb := HB.out
      have hX := @OrdX.new 144 114 ops base _ _ _ _ wr rl (fun _ => False) HBr.out HR.out HFX.out (HM2.out.kept HU.out (by omega)) (HM3.out.kept HU.out (by omega)) ⟨by omega, by omega, by omega, by omega⟩ ⟨by omega, by omega, by omega, by omega, by omega, by omega⟩ ⟨fun h => h, fun h => h, fun h => h, fun h => h⟩
      refine ⟨w.heap.size + 1 + 1 + 1, _, rfl, ⟨_, _, _, _, _, _, _, _, _, hX⟩, HE5.out.trans' HU.out (fun i hi e => absurd e (by omega)), fun j hj => ?_⟩
      rcases hj with h | h | h | h <;> omega

end Go.Proofs.YtiimccogojkldaaGreatDoor

/- Insertion into a row of one's own: what the cells become. -/
namespace Go.Hw
open Go.RowKit
set_option linter.unusedVariables false
set_option linter.unusedSimpArgs false
def setL (cur : Array Value) : Nat → List Value → Array Value
  | _, [] => cur
  | o, v :: r => setL (cur.setIfInBounds o v) (o + 1) r
theorem setL_size : ∀ (vs : List Value) (cur : Array Value) (o : Nat), (setL cur o vs).size = cur.size
  | [], _, _ => rfl
  | v :: r, cur, o => by unfold setL; rw [setL_size r, Array.size_setIfInBounds]
theorem setL_at : ∀ (vs : List Value) (cur : Array Value) (o j : Nat), o + vs.length ≤ cur.size → (setL cur o vs)[j]? = if o ≤ j ∧ j < o + vs.length then vs[j - o]? else cur[j]?
  | [], cur, o, j, h => by
    unfold setL
    rw [if_neg (by simp only [List.length_nil]; omega)]
  | v :: r, cur, o, j, h => by
    unfold setL
    simp only [List.length_cons] at h ⊢
    rw [setL_at r _ (o + 1) j (by rw [Array.size_setIfInBounds]; omega)]
    by_cases h1 : o = j
    · subst h1
      rw [if_neg (by omega), if_pos (by omega), Array.getElem?_setIfInBounds_self_of_lt (by omega)]
      simp
    · by_cases h2 : o + 1 ≤ j ∧ j < o + 1 + r.length
      · rw [if_pos h2, if_pos (by omega), show j - o = (j - (o + 1)) + 1 by omega, List.getElem?_cons_succ]
      · rw [if_neg h2, if_neg (by omega), Array.getElem?_setIfInBounds_ne h1]
theorem setCells_heap {b : Nat} {t : TypeId} : ∀ (vs : List Value) (o : Nat) (w : World) (cur : Array Value), w.heap[b]? = some (.cells cur t (0, 0)) → (w.setCells b o vs).heap[b]? = some (.cells (setL cur o vs) t (0, 0))
  | [], _, _, _, h => h
  | v :: r, o, w, cur, h => by
    unfold World.setCells setL
    exact setCells_heap r (o + 1) _ _ (setBlock h o v)
theorem setCells_upd {b : Nat} : ∀ (vs : List Value) (o : Nat) (w : World), Upd (fun k => k = b) w (w.setCells b o vs)
  | [], _, w => Upd.refl _ w
  | v :: r, o, w => by
    unfold World.setCells
    exact ((Upd.refl (fun k => k = b) w).setCell (p := ⟨b, o, none⟩) (.inl rfl) v).trans (setCells_upd r (o + 1) _)
/-- a row out of what its block holds -/
theorem own_mk {w : World} {base e g cap n : Nat} {cur : Array Value} {xs : List Value} (hl : xs.length = n) (hb : base ≤ g) (hg : w.heap[g]? = some (.cells cur e (0, 0))) (hn : n ≤ cap) (hm : cap ≤ maxLen) (hs : cur.size = cap) (ht : ∀ j, j < n → cur[j]? = xs[j]?) :
    w.ownsRow base e 1 (.slice (some ⟨g, 0, none⟩) n cap) n xs := by
  refine ⟨by omega, .inr ⟨g, cap, cur, rfl, hb, hg, hn, hm, by omega, ?_⟩⟩
  apply List.ext_getElem?
  intro j
  rw [Nat.mul_one, List.getElem?_take]
  by_cases h : j < n
  · rw [if_pos h, ← ht j h, Array.getElem?_toList]
  · rw [if_neg h, List.getElem?_eq_none (by omega)]
theorem ins_at {α : Type} (cs : List α) (x : α) (i j : Nat) (hi : i ≤ cs.length) : (cs.take i ++ x :: cs.drop i)[j]? = if j < i then cs[j]? else if j = i then some x else cs[j - 1]? := by
  by_cases h1 : j < i
  · rw [if_pos h1, List.getElem?_append_left (by simp; omega), List.getElem?_take_of_lt h1]
  · rw [if_neg h1, List.getElem?_append_right (by simp; omega)]
    have hl : (cs.take i).length = i := by simp; omega
    rw [hl]
    by_cases h2 : j = i
    · subst h2; rw [if_pos rfl, Nat.sub_self]; rfl
    · rw [if_neg h2, show j - i = (j - i - 1) + 1 by omega, List.getElem?_cons_succ, List.getElem?_drop]
      congr 1
      omega
end Go.Hw

/- Insertion of a name. -/
namespace Go.Proofs.YtiimccogojkldaaGreatDoor
open Go.RowKit Go.Hw Go
set_option linter.unusedVariables false
set_option linter.unusedSimpArgs false

open Tm
set_option maxRecDepth 100000 in
set_option maxHeartbeats 2000000 in
theorem ins_x (cs : List By) (x : By) (i : Nat) (v : Value) (base vb vc : Nat) (w : World) (hO : w.ownsRow base 9 1 v cs.length (cs.map Value.string)) (hi : i ≤ cs.length) (hx : w.heap[vb]? = some (.cells #[.string x] 9 (0, 0))) (hvb : v.ownBlock ≠ some vb) (hl : cs.length ≤ 1000000) (hbs : base ≤ w.heap.size) :
    Calls Tryz.prog 82 #[v, natV i, .slice (some ⟨vb, 0, none⟩) 1 vc] w fun e w' => ∃ v', e = .returned v' ∧ w'.ownsRow base 9 1 v' (cs.length + 1) ((cs.take i ++ x :: cs.drop i).map Value.string) ∧ Upd (fun k => v.ownBlock = some k) w w' ∧ (∀ k, v'.ownBlock = some k → v.ownBlock = some k ∨ w.heap.size ≤ k) := by
  have hlen : ((cs.take i ++ x :: cs.drop i).map Value.string).length = cs.length + 1 := by simp; omega
  have hmap : (cs.take i ++ x :: cs.drop i).map Value.string = (cs.map Value.string).take i ++ Value.string x :: (cs.map Value.string).drop i := by rw [List.map_append, List.map_cons, List.map_take, List.map_drop]
  have h1c : ∀ u ∈ cs.map Value.string, u.oneCell' = true := fun u hu => by
    obtain ⟨y, _, rfl⟩ := List.mem_map.1 hu
    rfl
  have h1v : ∀ u ∈ [Value.string x], u.oneCell' = true := fun u hu => by
    rw [List.mem_singleton] at hu; subst hu; rfl
  have hvs : ∀ (j : Nat) (u : Value), [Value.string x][j]? = some u → w.cell? ⟨vb, 0 + j, none⟩ = some u := fun j u hj => by
    match j, hj with
    | 0, hj =>
      simp only [List.getElem?_cons_zero, Option.some.injEq] at hj
      rw [← hj]
      exact cellRow hx 0 _ rfl
  have hcl : (cs.map Value.string).length = cs.length := by simp
  have hat := fun j => ins_at (cs.map Value.string) (Value.string x) i j (by rw [hcl]; exact hi)
  have hml : (cs.length + 1) ≤ maxLen := by unfold maxLen; omega
  rcases hO.2 with ⟨rfl, h0⟩ | ⟨g, cap, cur, rfl, hb, hg, hnc, hcm, hcs, ht⟩
  · have hc0 : cs = [] := List.eq_nil_of_length_eq_zero h0
    subst hc0
    obtain rfl : i = 0 := by simpa using hi
    refine (Tryz.slices_Insert_string_end_grow none 0 0 vb 0 1 vc [] [.string x] w (by omega) (by omega) (by omega) (by omega) rfl rfl (fun _ => rfl) (fun a h => by cases h) hvs h1v).mono ?_
    rintro e w' ⟨rfl, rfl⟩
    refine ⟨_, rfl, ?_, ((Upd.refl _ w).drew).alloc _, fun k hk => .inr ?_⟩
    · refine own_mk (by simp) hbs (alloc_at _ _ rfl) (grownCap_ge _ _ _ _) (grownCap_le_maxLen _ _ _ _ (by unfold maxLen; omega)) ?_ (fun j hj => ?_)
      · have := grownCap_ge w (0 + 1) 0 9
        simp only [Array.size_append, List.size_toArray, size_zeroCells, List.nil_append, List.length_singleton]
        show 1 + (grownCap w (0 + 1) 0 9 - (0 + 1)) * 1 = _
        omega
      · obtain rfl : j = 0 := by simpa using hj
        show (#[Value.string x] ++ _)[0]? = some (Value.string x)
        rw [Array.getElem?_append_left (by simp)]
        rfl
    · simp only [Value.ownBlock, Option.some.injEq] at hk
      omega
  · have hcur : ∀ j, j < cs.length → cur[j]? = (cs.map Value.string)[j]? := fun j hj => by
      rw [← ht, Nat.mul_one, List.getElem?_take_of_lt hj, Array.getElem?_toList]
    have hsz : cur.size = cap := by omega
    have hcell : ∀ (j : Nat) (u : Value), (cs.map Value.string)[j]? = some u → w.cell? ⟨g, 0 + j, none⟩ = some u := fun j u hj => by
      have hjl : j < cs.length := by have := (List.getElem?_eq_some_iff.1 hj).1; simpa using this
      rw [Nat.zero_add]
      exact cellRow hg j u (by rw [hcur j hjl]; exact hj)
    have hsome : ∀ j, j < cap → (w.cell? ⟨g, 0 + j, none⟩).isSome = true := fun j hj => by
      rw [Nat.zero_add, cell_of_row w g j cur 9 _ hg, Array.getElem?_eq_getElem (by omega)]
      rfl
    have hfz : ∀ j, w.frozen? ⟨g, j, none⟩ = false := fun j => frozenRow hg j
    have hne : vb ≠ g := fun e => hvb (by rw [e]; rfl)
    have hsa : w.shape? vb = some (9, 1) := by unfold World.shape?; rw [hx]; rfl
    have hsb : w.shape? g = some (9, cap) := by unfold World.shape?; rw [hg]; simp [hsz]
    have hc9 : cap ≤ 9223372036854775807 := by unfold maxLen at hcm; omega
    by_cases hroom : cs.length + 1 ≤ cap
    · by_cases hil : i < cs.length
      · refine (Tryz.slices_Insert_string_shift g 0 cs.length cap i vb 0 1 vc (cs.map Value.string) [.string x] w hil (by omega) hroom hc9 hne hcl rfl hcell (fun j hj => hsome j (by omega)) (fun j hj => hfz _) hvs h1c h1v 9 9 1 cap hsa hsb (by omega) (frozenRow hx _) (frozenRow hx _)).mono ?_
        rintro e w' ⟨rfl, rfl⟩
        refine ⟨_, rfl, ?_, ((Upd.refl _ w).drew).trans (((setCells_upd (b := g) _ _ w.drew).trans (setCells_upd _ _ _)).mono (fun k _ e => by rw [e]; rfl)), fun k hk => .inl hk⟩
        refine own_mk hlen hb (setCells_heap _ _ _ _ (setCells_heap _ _ _ _ hg)) hroom hcm (by rw [setL_size, setL_size]; exact hsz) (fun j hj => ?_)
        rw [hmap, hat, setL_at _ _ _ _ (by rw [setL_size]; simp; omega), setL_at _ _ _ _ (by simp; omega)]
        simp only [List.length_drop, hcl, List.length_singleton, Nat.zero_add]
        by_cases h1 : j < i
        · rw [if_neg (by omega), if_neg (by omega), if_pos h1]
          exact hcur j (by omega)
        · by_cases h2 : j = i
          · subst h2
            rw [if_pos (by omega), if_neg h1, if_pos rfl, Nat.sub_self]
            rfl
          · rw [if_neg (by omega), if_pos (by omega), if_neg h1, if_neg h2, List.getElem?_drop]
            congr 1
            omega
      · obtain rfl : i = cs.length := by omega
        refine (Tryz.slices_Insert_string_end_room g 0 cs.length cap vb 0 1 vc [.string x] w (by omega) hroom hc9 rfl (fun j hj => by rw [Nat.zero_add]; have := hsome (cs.length + j) (by omega); rw [Nat.zero_add] at this; exact this) (fun j hj => hfz _) hvs h1v).mono ?_
        rintro e w' ⟨rfl, rfl⟩
        refine ⟨_, rfl, ?_, (setCells_upd (b := g) _ _ w).mono (fun k _ e => by rw [e]; rfl), fun k hk => .inl hk⟩
        refine own_mk hlen hb (setCells_heap _ _ _ _ hg) hroom hcm (by rw [setL_size]; exact hsz) (fun j hj => ?_)
        rw [hmap, hat, setL_at _ _ _ _ (by simp; omega)]
        simp only [List.length_singleton, Nat.zero_add]
        by_cases h1 : j < cs.length
        · rw [if_neg (by omega), if_pos h1]
          exact hcur j h1
        · obtain rfl : j = cs.length := by omega
          rw [if_pos (by omega), if_neg h1, if_pos rfl, Nat.sub_self]
          rfl
    · have hge := grownCap_ge w (cs.length + 1) cap 9
      have hgm := grownCap_le_maxLen w (cs.length + 1) cap 9 hml
      by_cases hil : i < cs.length
      · refine (Tryz.slices_Insert_string_grow g 0 cs.length cap i vb 0 1 vc (cs.map Value.string) [.string x] w hil (by omega) hnc (by omega) (by omega) hcl rfl hcell hvs h1c h1v).mono ?_
        rintro e w' ⟨rfl, rfl⟩
        have hz1 : (Value.string ⟨#[]⟩).cells.size = 1 := rfl
        refine ⟨_, rfl, ?_, ?_, fun k hk => .inr ?_⟩
        · refine own_mk hlen hbs (setCells_heap _ _ _ _ (setCells_heap (w := (w.alloc _).drew) _ _ _ (alloc_at w _ rfl))) hge hgm ?_ (fun j hj => ?_)
          · rw [setL_size, setL_size]
            simp only [Array.size_append, List.size_toArray, size_zeroCells, List.length_take, hcl, hz1]
            omega
          · rw [hmap, hat, setL_at _ _ _ _ (by rw [setL_size]; simp only [Array.size_append, List.size_toArray, size_zeroCells, List.length_take, hcl, hz1, List.length_drop]; omega), setL_at _ _ _ _ (by simp only [Array.size_append, List.size_toArray, size_zeroCells, List.length_take, hcl, hz1, List.length_singleton]; omega)]
            simp only [List.length_drop, hcl, List.length_singleton]
            by_cases h1 : j < i
            · rw [if_neg (by omega), if_neg (by omega), if_pos h1, Array.getElem?_append_left (by simp; omega), Array.getElem?_append_left (by simp; omega), List.getElem?_toArray, List.getElem?_take_of_lt h1]
            · by_cases h2 : j = i
              · subst h2
                rw [if_neg (by omega), if_pos (by omega), if_neg h1, if_pos rfl, Nat.sub_self]
                rfl
              · rw [if_pos (by omega), if_neg h1, if_neg h2, List.getElem?_drop]
                congr 1
                omega
        · have u1 : Upd (fun k => (Value.slice (some ⟨g, 0, none⟩) cs.length cap).ownBlock = some k) w ((w.alloc (.cells (((cs.map Value.string).take i).toArray ++ Builtin.zeroCells (Value.string ⟨#[]⟩).cells (cs.length + 1 - i) ++ Builtin.zeroCells (Value.string ⟨#[]⟩).cells (grownCap w (cs.length + 1) cap 9 - (cs.length + 1))) 9)).drew) := ((Upd.refl _ w).alloc _).drew
          refine ((u1.trans' (setCells_upd (b := w.heap.size) _ _ _) (fun k hk e => by omega)).drew).trans' (setCells_upd (b := w.heap.size) _ _ _) (fun k hk e => by omega)
        · simp only [Value.ownBlock, Option.some.injEq] at hk
          omega
      · obtain rfl : i = cs.length := by omega
        refine (Tryz.slices_Insert_string_end_grow (some ⟨g, 0, none⟩) cs.length cap vb 0 1 vc (cs.map Value.string) [.string x] w (by omega) hnc (by omega) (by omega) hcl rfl (fun h => by cases h) (fun a h j u hj => by cases h; have := hcell j u hj; rw [Nat.zero_add] at this; unfold Addr.add; split; (rename_i h0; subst h0; exact this); simpa using this) hvs h1v).mono ?_
        rintro e w' ⟨rfl, rfl⟩
        have hz1 : (Value.string ⟨#[]⟩).cells.size = 1 := rfl
        refine ⟨_, rfl, ?_, ((Upd.refl _ w).drew).alloc _, fun k hk => .inr ?_⟩
        · refine own_mk hlen hbs (alloc_at _ _ rfl) hge hgm ?_ (fun j hj => ?_)
          · simp only [Array.size_append, List.size_toArray, size_zeroCells, List.length_append, hcl, hz1, List.length_singleton]
            omega
          · rw [hmap, hat, Array.getElem?_append_left (by simp; omega), List.getElem?_toArray]
            by_cases h1 : j < cs.length
            · rw [if_pos h1, List.getElem?_append_left (by rw [hcl]; exact h1)]
            · obtain rfl : j = cs.length := by omega
              rw [if_neg h1, if_pos rfl, List.getElem?_append_right (by rw [hcl]; omega), hcl, Nat.sub_self]
              rfl
        · simp only [Value.ownBlock, Option.some.injEq] at hk
          omega

end Go.Proofs.YtiimccogojkldaaGreatDoor

/- operations. -/
namespace Go.Proofs.YtiimccogojkldaaGreatDoor
open Go.RowKit Go.Hw Go
set_option linter.unusedVariables false
set_option linter.unusedSimpArgs false

open Tm
theorem ris_low {l : List By} {s : By} (h : Ris l) : (∀ t, t < lowF l s → blt (l.getD t nul) s = true) ∧ (∀ t, lowF l s ≤ t → t < l.length → blt (l.getD t nul) s = false) := by
  have hg : ∀ t, (h : t < l.length) → l.getD t nul = l[t] := fun t h => by rw [List.getD_eq_getElem?_getD, List.getElem?_eq_getElem h]; rfl
  have hle : lowF l s ≤ l.length := List.findIdx_le_length
  refine ⟨fun t ht => ?_, fun t ht htl => ?_⟩
  · rw [hg t (by omega)]
    have := List.not_of_lt_findIdx (show t < lowF l s from ht)
    simpa using this
  · rw [hg t htl]
    have h0 : lowF l s < l.length := by omega
    have h1 : (!blt l[lowF l s] s) = true := List.findIdx_getElem (p := fun x => !blt x s) (w := h0)
    have h2 : blt l[lowF l s] s = false := by simpa using h1
    rcases Nat.eq_or_lt_of_le ht with e | e
    · have : l[t] = l[lowF l s] := by congr 1; omega
      rw [this]; exact h2
    · rw [Bool.eq_false_iff]
      intro h3
      have := blt_trans (List.pairwise_iff_getElem.1 h (lowF l s) t h0 htl e) h3
      rw [h2] at this; cases this
theorem ris_mem {l : List By} {s : By} (h : Ris l) : (lowF l s < l.length ∧ l.getD (lowF l s) nul = s) ↔ s ∈ l := by
  have hg : ∀ t, (h : t < l.length) → l.getD t nul = l[t] := fun t h => by rw [List.getD_eq_getElem?_getD, List.getElem?_eq_getElem h]; rfl
  constructor
  · rintro ⟨h1, h2⟩
    rw [← h2, hg _ h1]
    exact List.getElem_mem h1
  · intro hm
    obtain ⟨p, hp, rfl⟩ := List.mem_iff_getElem.1 hm
    have h1 := ris_low (s := l[p]) h
    have h3 : lowF l l[p] = p := by
      rcases Nat.lt_trichotomy (lowF l l[p]) p with e | e | e
      · have h4 := h1.2 _ (Nat.le_refl _) (by omega)
        rw [hg _ (by omega), List.pairwise_iff_getElem.1 h _ p (by omega) hp e] at h4
        cases h4
      · exact e
      · have h4 := h1.1 p e
        rw [hg p hp, blt_irrefl] at h4
        cases h4
    rw [h3]
    exact ⟨hp, hg p hp⟩
theorem bsearch_x (l : List By) (x : By) (v : Value) (S : Nat → Prop) (w : World) (hR : StR S w v l) (hr : Ris l) (hl : l.length ≤ 1000000) :
    Calls Tryz.prog 81 #[v, .string x] w fun e w' => e = .returned (.tuple #[natV (lowF l x), .bool (decide (x ∈ l))]) ∧ Ext w w' := by
  obtain ⟨a, cap, rfl⟩ := SlR.shape hR
  by_cases h0 : 0 < l.length
  · obtain ⟨g, off, hga, _, hat⟩ := SlR.one_at (d := nul) hR h0
    subst hga
    obtain ⟨h1, h2⟩ := ris_low (s := x) hr
    have hm := ris_mem (s := x) hr
    have hle : lowF l x ≤ l.length := List.findIdx_le_length
    have hbs : Lib.bsGo (fun t => Op.bytesLess (ByteArray.toList (if t < l.length then l.getD t nul else x)) x.toList) l.length 0 l.length = lowF l x := by
      refine Lib.bsGo_spec _ (lowF l x) (fun t ht => ?_) (fun t ht => ?_) l.length 0 l.length (by omega) (Nat.zero_le _) hle
      · rw [if_pos (by omega), bless]; exact h1 t ht
      · by_cases htl : t < l.length
        · rw [if_pos htl, bless]; exact h2 t ht htl
        · rw [if_neg htl, bless]; exact blt_irrefl _
    refine (Tryz.slices_BinarySearch_string g off l.length cap (fun t => if t < l.length then l.getD t nul else x) x w (by omega) (fun j hj => by rw [if_pos hj]; exact hat j hj)).mono ?_
    rintro e w' ⟨rfl, q, rfl⟩
    refine ⟨?_, (Upd.refl _ w).drewN' q⟩
    rw [hbs]
    suffices hd : decide (lowF l x < l.length ∧ (if lowF l x < l.length then l.getD (lowF l x) nul else x) = x) = decide (x ∈ l) by rw [hd]
    rw [Bool.eq_iff_iff, decide_eq_true_eq, decide_eq_true_eq, ← hm]
    constructor
    · rintro ⟨k1, k2⟩; rw [if_pos k1] at k2; exact ⟨k1, k2⟩
    · rintro ⟨k1, k2⟩; rw [if_pos k1]; exact ⟨k1, k2⟩
  · have hl0 : l = [] := List.eq_nil_of_length_eq_zero (by omega)
    subst hl0
    refine (Tryz.slices_BinarySearch_string_empty a cap x w).mono ?_
    rintro e w' ⟨rfl, rfl⟩
    exact ⟨rfl, Upd.refl _ _⟩
theorem own_str {S : Nat → Prop} {base e : Nat} {W : World} {v : Value} {l : List By} (h : W.ownsRow base e 1 v l.length (l.map Value.string)) : StR (fun _ => True) W v l := (SlR.of_own h).weaken (fun _ _ => trivial)
set_option maxRecDepth 100000 in
set_option maxHeartbeats 2000000 in
theorem opers_x (base : Nat) : ∀ (t : Tm) (l : List By) (v v' : Value) (T : Nat → Prop) (w : World), Ris l → w.ownsRow base 9 1 v (l).length ((l).map Value.string) → TmR T w t v' → (∀ k, T k → k < base) → base ≤ w.heap.size → l.length + t.size ≤ 100000 →
    Calls Tryz.prog 51 #[v', v] w fun e w' => ∃ r, e = .returned r ∧ w'.ownsRow base 9 1 r (sFoldO l (opN t)).length ((sFoldO l (opN t)).map Value.string) ∧ Upd (fun j => v.ownBlock = some j) w w' ∧ (∀ j, r.ownBlock = some j → v.ownBlock = some j ∨ w.heap.size ≤ j) := by
  refine Tm.ind (fun nm so L ih => ?_)
  intro l v v' T w hri hO hT hTb hbw hsz
  obtain ⟨a, cap, rfl, hT⟩ := hT
  obtain ⟨va, vc, rfl⟩ := own_shape hO
  dsimp only [tV, Tm.name, Tm.sort, Tm.kids] at hT ⊢
  have HTL := Lib.hid hT
  have HIH := Lib.hid ih
  have HRI := Lib.hid hri
  have HOW := Lib.hid hO
  have HBW := Lib.hid hbw
  have HTb := Lib.hid hTb
  have hroom : l.length + sizes L + 1 ≤ 100000 := by rw [size_eq] at hsz; simp only [Tm.kids] at hsz; omega
  have HR0 := Lib.hid hroom
  have hlL : L.length ≤ 100000 := by have h1 := length_le_sizes L; omega
  have HZ : Hid (Ext w (w.alloc (.cells #[.string nm, .string so, .slice a L.length cap] 25))) := Lib.hid ((Upd.refl (fun _ => False) w).alloc _)
  have HB := Lib.hid (alloc0 w (.cells #[.string nm, .string so, .slice a L.length cap] 25))
  have c0 := cellRow HB.out 0 (.string nm) rfl
  have c1 := cellRow HB.out 1 (.string so) rfl
  have c2 := cellRow HB.out 2 (.slice a L.length cap) rfl
  clear ih hT hsz hroom hri hO hbw
  by_cases hs0 : so.size = 0
  · have hse := empty_is _ hs0
    subst hse
    have HBS := Lib.hid (fun W (hW : Ext w W) => bsearch_x l nm _ (fun _ => True) W (SlR.kept (own_str (S := fun _ => True) HOW.out) hW (fun _ _ h => h)) HRI.out (by have := HR0.out; omega))
    by_cases hm : nm ∈ l
    · have hmd : decide (nm ∈ l) = true := decide_eq_true hm
      rw [hmd] at HBS
      have HOPN : Hid (sFoldO l (opN (.mk nm ⟨#[]⟩ L)) = sFoldO l (L.flatMap opN)) := Lib.hid (by rw [opN_mk, if_pos (show (⟨#[]⟩ : By) = nul from rfl), sFoldO_append]; congr 1; show sIns l nm = l; unfold sIns; rw [if_pos hm])
      clear hmd hm
      go_enter Tryz.func51, Tryz.ntmps51
      go_wp2_with fail
      refine (HBS.out _ HZ.out).mono ?_
      rintro e w3 ⟨rfl, hw3⟩
      have HE3 := Lib.hid (HZ.out.trans hw3)
      have HB3 := Lib.hid (hw3.heap HB.out (fun h => h))
      have c2' := cellRow HB3.out 2 (.slice a L.length cap) rfl
      have HF3 := Lib.hid (own_kept HOW.out HE3.out (fun _ _ h => h))
      have HU3 : Hid (Upd (fun j => (Value.slice va l.length vc).ownBlock = some j) w w3) := Lib.hid (HE3.out.mono (fun _ _ x => x.elim))
      have HK3 : Hid (∀ j, (Value.slice va l.length vc).ownBlock = some j → (Value.slice va l.length vc).ownBlock = some j ∨ w.heap.size ≤ j) := Lib.hid (fun j h => .inl h)
      clear hw3 c0 c1 c2
      go_wp2_with fail
      go_loopg [1, 30] L.length (fun gk lv iv wr => ∃ k : Nat, iv = .int .i64 (k : Int) ∧ gk = L.length - k ∧ k ≤ L.length ∧ Hid (wr.ownsRow base 9 1 lv (sFoldO (l) ((L.take k).flatMap opN)).length ((sFoldO (l) ((L.take k).flatMap opN)).map Value.string)) ∧ Hid (Upd (fun j => (Value.slice va l.length vc).ownBlock = some j) w wr) ∧ Hid (∀ j, lv.ownBlock = some j → (Value.slice va l.length vc).ownBlock = some j ∨ w.heap.size ≤ j))
      case atStart => exact ⟨0, rfl, rfl, Nat.zero_le _, HF3, HU3, HK3⟩
      case round =>
        obtain ⟨k, rfl, rfl, hk, HFk, HUk, HBk⟩ := hrel
        obtain ⟨fa, fc, hlv⟩ := own_shape HFk.out
        subst hlv
        by_cases hlt : k < L.length
        · obtain ⟨g, off, rfl, _, hat⟩ := (HTL.out.kept HUk.out (fun j hj e => by have h1 := HTb.out j hj; have h2 := (HOW.out.lt j e).1; omega)).at_ (by omega)
          obtain ⟨xa, xc, q0, q1, q2, hkid⟩ := hat k hlt
          have z0 : (0 : Int) ≤ (k : Int) := by omega
          have z1 : (k : Int) < (L.length : Int) := by omega
          have z2 : decide ((k : Int) < (L.length : Int)) = true := decide_eq_true z1
          have z2' : decide (k < L.length) = true := decide_eq_true hlt
          have hmem := tg_mem L k hlt
          have hrm := flat_room opN opN_len L k hlt
          have hln := sFoldO_len ((L.take k).flatMap opN) (l)
          have hl0 := HR0.out
          have hsn := flat_snoc opN L k hlt
          have hbw := HBW.out
          have HIX := Lib.hid (fun W (hW : Ext wr W) => HIH.out (tg L k) hmem _ _ _ T W (sFoldO_ris (HRI.out)) (own_kept HFk.out hW (fun _ _ h => h)) (TmR.ext ⟨xa, xc, rfl, hkid⟩ hW) HTb.out (by have := hW.size; have := HUk.out.size; omega) (by have := HR0.out; omega))
          dsimp only [tV] at HIX
          rw [← sFoldO_append, ← hsn] at HIX
          obtain ⟨x, hx⟩ : ∃ x, tg L k = x := ⟨_, rfl⟩
          rw [hx] at q0 q1 q2 HIX
          rw [← Nat.add_assoc] at q1 q2
          have hal : Ext wr (wr.alloc (.cells #[.string x.name, .string x.sort, .slice xa x.kids.length xc] 25)) := (Upd.refl _ wr).alloc _
          have HAL := Lib.hid hal
          have e0 := cellRow (alloc0 wr (.cells #[.string x.name, .string x.sort, .slice xa x.kids.length xc] 25)) 0 (.string x.name) rfl
          have e1 := cellRow (alloc0 wr (.cells #[.string x.name, .string x.sort, .slice xa x.kids.length xc] 25)) 1 (.string x.sort) rfl
          have e2 := cellRow (alloc0 wr (.cells #[.string x.name, .string x.sort, .slice xa x.kids.length xc] 25)) 2 (.slice xa x.kids.length xc) rfl
          clear hmem hrm hln hl0 hsn hx hat hkid hal hbw
          go_wp2_with fail
          refine (HIX.out _ HAL.out).mono ?_
          rintro e w8 ⟨r, rfl, hr, hu8, hb8⟩
          have HU8 : Hid (Upd (fun j => (Value.slice va l.length vc).ownBlock = some j) w w8) := Lib.hid ((HUk.out.ext HAL.out).trans' hu8 (fun j hj e => by rcases HBk.out j e with h | h; exact h; omega))
          have HB8 : Hid (∀ j, r.ownBlock = some j → (Value.slice va l.length vc).ownBlock = some j ∨ w.heap.size ≤ j) := Lib.hid (fun j hj => by
            rcases hb8 j hj with h | h
            · exact HBk.out j h
            · have h1 := HAL.out.size; have h2 := HUk.out.size; exact .inr (by omega))
          have HFr := Lib.hid hr
          obtain ⟨ra, rc, hrv⟩ := own_shape hr
          subst hrv
          clear hr hu8 hb8 q0 q1 q2 e0 e1 e2 HIX
          go_wp2_with fail
          go_roundg (L.length - (k + 1))
          case measure => omega
          case rel => exact ⟨k + 1, by go_num, rfl, by omega, HFr, HU8, HB8⟩
        · obtain rfl : k = L.length := by omega
          have z2 : decide ((L.length : Int) < (L.length : Int)) = false := decide_eq_false (by omega)
          have HFL := HFk.out
          rw [List.take_length] at HFL
          have HFQ := Lib.hid HFL
          clear HFL
          go_wp2_with fail
          go_ret
          rw [HOPN.out]
          refine ⟨_, rfl, ?_, HUk.out, HBk.out⟩
          have h9 := HFk.out
          rw [List.take_length] at h9
          have e9 : L.take L.length = L := List.take_length
          simp only [e9]
          exact h9
    · have hmd : decide (nm ∈ l) = false := decide_eq_false hm
      rw [hmd] at HBS
      have HOPN : Hid (sFoldO l (opN (.mk nm ⟨#[]⟩ L)) = sFoldO (sIns l nm) (L.flatMap opN)) := Lib.hid (by rw [opN_mk, if_pos (show (⟨#[]⟩ : By) = nul from rfl), sFoldO_append]; rfl)
      have HSI : Hid (sIns l nm = l.take (lowF l nm) ++ nm :: l.drop (lowF l nm)) := Lib.hid (by unfold sIns; rw [if_neg hm])
      have HSL : Hid ((sIns l nm).length = l.length + 1) := Lib.hid (by rw [HSI.out]; have : lowF l nm ≤ l.length := List.findIdx_le_length; simp; omega)
      have HRI2 := Lib.hid (sIns_ris (s := nm) HRI.out)
      have HLW : Hid (lowF l nm ≤ l.length) := Lib.hid List.findIdx_le_length
      clear hmd hm
      go_enter Tryz.func51, Tryz.ntmps51
      go_wp2_with fail
      refine (HBS.out _ HZ.out).mono ?_
      rintro e w3 ⟨rfl, hw3⟩
      have HE3 := Lib.hid (HZ.out.trans hw3)
      have HB3 := Lib.hid (hw3.heap HB.out (fun h => h))
      have c0' := cellRow HB3.out 0 (.string nm) rfl
      have HA4 : Hid (Ext w3 (w3.alloc (.cells #[.string nm] 9))) := Lib.hid ((Upd.refl (fun _ => False) w3).alloc _)
      have HF4 := Lib.hid (own_kept HOW.out (HE3.out.trans HA4.out) (fun _ _ h => h))
      have HIN := Lib.hid (ins_x l nm (lowF l nm) _ base w3.heap.size 1 _ HF4.out HLW.out (alloc0 w3 (.cells #[.string nm] 9)) (fun e => by have h1 := own_lt HOW.out _ e; have h2 := HE3.out.size; omega) (by have := HR0.out; omega) (by have h1 := HBW.out; have h2 := HE3.out.size; have h3 := HA4.out.size; omega))
      generalize lowF l nm = I at *
      clear hw3 c0 c1 c2
      go_wp2_with fail
      refine HIN.out.mono ?_
      rintro e w4 ⟨v4, rfl, hO4, hu4, hb4⟩
      rw [← HSI.out, ← HSL.out] at hO4
      have HF5 := Lib.hid hO4
      have HU5 : Hid (Upd (fun j => (Value.slice va l.length vc).ownBlock = some j) w w4) := Lib.hid (((HE3.out.trans HA4.out).mono (fun _ _ x => x.elim)).trans hu4)
      have HK5 : Hid (∀ j, v4.ownBlock = some j → (Value.slice va l.length vc).ownBlock = some j ∨ w.heap.size ≤ j) := Lib.hid (fun j h => (hb4 j h).imp id (fun e => by have h2 := HE3.out.size; have h3 := HA4.out.size; omega))
      have HB5 := Lib.hid (hu4.heap (HA4.out.heap HB3.out (fun h => h)) (fun e => by have h1 := own_lt HOW.out _ e; omega))
      have c2' := cellRow HB5.out 2 (.slice a L.length cap) rfl
      obtain ⟨a4, c4, hv4⟩ := own_shape hO4
      subst hv4
      clear hO4 hu4 hb4 c0'
      go_wp2_with fail
      go_loopg [1, 30] L.length (fun gk lv iv wr => ∃ k : Nat, iv = .int .i64 (k : Int) ∧ gk = L.length - k ∧ k ≤ L.length ∧ Hid (wr.ownsRow base 9 1 lv (sFoldO (sIns l nm) ((L.take k).flatMap opN)).length ((sFoldO (sIns l nm) ((L.take k).flatMap opN)).map Value.string)) ∧ Hid (Upd (fun j => (Value.slice va l.length vc).ownBlock = some j) w wr) ∧ Hid (∀ j, lv.ownBlock = some j → (Value.slice va l.length vc).ownBlock = some j ∨ w.heap.size ≤ j))
      case atStart => exact ⟨0, rfl, rfl, Nat.zero_le _, HF5, HU5, HK5⟩
      case round =>
        obtain ⟨k, rfl, rfl, hk, HFk, HUk, HBk⟩ := hrel
        obtain ⟨fa, fc, hlv⟩ := own_shape HFk.out
        subst hlv
        by_cases hlt : k < L.length
        · obtain ⟨g, off, rfl, _, hat⟩ := (HTL.out.kept HUk.out (fun j hj e => by have h1 := HTb.out j hj; have h2 := (HOW.out.lt j e).1; omega)).at_ (by omega)
          obtain ⟨xa, xc, q0, q1, q2, hkid⟩ := hat k hlt
          have z0 : (0 : Int) ≤ (k : Int) := by omega
          have z1 : (k : Int) < (L.length : Int) := by omega
          have z2 : decide ((k : Int) < (L.length : Int)) = true := decide_eq_true z1
          have z2' : decide (k < L.length) = true := decide_eq_true hlt
          have hmem := tg_mem L k hlt
          have hrm := flat_room opN opN_len L k hlt
          have hln := sFoldO_len ((L.take k).flatMap opN) (sIns l nm)
          have hl0 := HSL.out
          have hsn := flat_snoc opN L k hlt
          have hbw := HBW.out
          have HIX := Lib.hid (fun W (hW : Ext wr W) => HIH.out (tg L k) hmem _ _ _ T W (sFoldO_ris (HRI2.out)) (own_kept HFk.out hW (fun _ _ h => h)) (TmR.ext ⟨xa, xc, rfl, hkid⟩ hW) HTb.out (by have := hW.size; have := HUk.out.size; omega) (by have := HR0.out; omega))
          dsimp only [tV] at HIX
          rw [← sFoldO_append, ← hsn] at HIX
          obtain ⟨x, hx⟩ : ∃ x, tg L k = x := ⟨_, rfl⟩
          rw [hx] at q0 q1 q2 HIX
          rw [← Nat.add_assoc] at q1 q2
          have hal : Ext wr (wr.alloc (.cells #[.string x.name, .string x.sort, .slice xa x.kids.length xc] 25)) := (Upd.refl _ wr).alloc _
          have HAL := Lib.hid hal
          have e0 := cellRow (alloc0 wr (.cells #[.string x.name, .string x.sort, .slice xa x.kids.length xc] 25)) 0 (.string x.name) rfl
          have e1 := cellRow (alloc0 wr (.cells #[.string x.name, .string x.sort, .slice xa x.kids.length xc] 25)) 1 (.string x.sort) rfl
          have e2 := cellRow (alloc0 wr (.cells #[.string x.name, .string x.sort, .slice xa x.kids.length xc] 25)) 2 (.slice xa x.kids.length xc) rfl
          clear hmem hrm hln hl0 hsn hx hat hkid hal hbw
          go_wp2_with fail
          refine (HIX.out _ HAL.out).mono ?_
          rintro e w8 ⟨r, rfl, hr, hu8, hb8⟩
          have HU8 : Hid (Upd (fun j => (Value.slice va l.length vc).ownBlock = some j) w w8) := Lib.hid ((HUk.out.ext HAL.out).trans' hu8 (fun j hj e => by rcases HBk.out j e with h | h; exact h; omega))
          have HB8 : Hid (∀ j, r.ownBlock = some j → (Value.slice va l.length vc).ownBlock = some j ∨ w.heap.size ≤ j) := Lib.hid (fun j hj => by
            rcases hb8 j hj with h | h
            · exact HBk.out j h
            · have h1 := HAL.out.size; have h2 := HUk.out.size; exact .inr (by omega))
          have HFr := Lib.hid hr
          obtain ⟨ra, rc, hrv⟩ := own_shape hr
          subst hrv
          clear hr hu8 hb8 q0 q1 q2 e0 e1 e2 HIX
          go_wp2_with fail
          go_roundg (L.length - (k + 1))
          case measure => omega
          case rel => exact ⟨k + 1, by go_num, rfl, by omega, HFr, HU8, HB8⟩
        · obtain rfl : k = L.length := by omega
          have z2 : decide ((L.length : Int) < (L.length : Int)) = false := decide_eq_false (by omega)
          have HFL := HFk.out
          rw [List.take_length] at HFL
          have HFQ := Lib.hid HFL
          clear HFL
          go_wp2_with fail
          go_ret
          rw [HOPN.out]
          refine ⟨_, rfl, ?_, HUk.out, HBk.out⟩
          have h9 := HFk.out
          rw [List.take_length] at h9
          have e9 : L.take L.length = L := List.take_length
          simp only [e9]
          exact h9
  · obtain ⟨e1, e2, e3, e4⟩ := nonempty_t so (Nat.pos_of_ne_zero hs0)
    have HOPN : Hid (sFoldO l (opN (.mk nm so L)) = sFoldO l (L.flatMap opN)) := Lib.hid (by rw [opN_mk, if_neg (fun e => hs0 (by rw [e]; rfl))]; rfl)
    have HF3 := Lib.hid (own_kept HOW.out HZ.out (fun _ _ h => h))
    have HU3 : Hid (Upd (fun j => (Value.slice va l.length vc).ownBlock = some j) w (w.alloc (.cells #[.string nm, .string so, .slice a L.length cap] 25))) := Lib.hid (HZ.out.mono (fun _ _ x => x.elim))
    have HK3 : Hid (∀ j, (Value.slice va l.length vc).ownBlock = some j → (Value.slice va l.length vc).ownBlock = some j ∨ w.heap.size ≤ j) := Lib.hid (fun j h => .inl h)
    go_enter Tryz.func51, Tryz.ntmps51
    go_wp2_with fail
    clear c0 c1 c2
    go_loopg [1, 30] L.length (fun gk lv iv wr => ∃ k : Nat, iv = .int .i64 (k : Int) ∧ gk = L.length - k ∧ k ≤ L.length ∧ Hid (wr.ownsRow base 9 1 lv (sFoldO (l) ((L.take k).flatMap opN)).length ((sFoldO (l) ((L.take k).flatMap opN)).map Value.string)) ∧ Hid (Upd (fun j => (Value.slice va l.length vc).ownBlock = some j) w wr) ∧ Hid (∀ j, lv.ownBlock = some j → (Value.slice va l.length vc).ownBlock = some j ∨ w.heap.size ≤ j))
    case atStart => exact ⟨0, rfl, rfl, Nat.zero_le _, HF3, HU3, HK3⟩
    case round =>
      obtain ⟨k, rfl, rfl, hk, HFk, HUk, HBk⟩ := hrel
      obtain ⟨fa, fc, hlv⟩ := own_shape HFk.out
      subst hlv
      by_cases hlt : k < L.length
      · obtain ⟨g, off, rfl, _, hat⟩ := (HTL.out.kept HUk.out (fun j hj e => by have h1 := HTb.out j hj; have h2 := (HOW.out.lt j e).1; omega)).at_ (by omega)
        obtain ⟨xa, xc, q0, q1, q2, hkid⟩ := hat k hlt
        have z0 : (0 : Int) ≤ (k : Int) := by omega
        have z1 : (k : Int) < (L.length : Int) := by omega
        have z2 : decide ((k : Int) < (L.length : Int)) = true := decide_eq_true z1
        have z2' : decide (k < L.length) = true := decide_eq_true hlt
        have hmem := tg_mem L k hlt
        have hrm := flat_room opN opN_len L k hlt
        have hln := sFoldO_len ((L.take k).flatMap opN) (l)
        have hl0 := HR0.out
        have hsn := flat_snoc opN L k hlt
        have hbw := HBW.out
        have HIX := Lib.hid (fun W (hW : Ext wr W) => HIH.out (tg L k) hmem _ _ _ T W (sFoldO_ris (HRI.out)) (own_kept HFk.out hW (fun _ _ h => h)) (TmR.ext ⟨xa, xc, rfl, hkid⟩ hW) HTb.out (by have := hW.size; have := HUk.out.size; omega) (by have := HR0.out; omega))
        dsimp only [tV] at HIX
        rw [← sFoldO_append, ← hsn] at HIX
        obtain ⟨x, hx⟩ : ∃ x, tg L k = x := ⟨_, rfl⟩
        rw [hx] at q0 q1 q2 HIX
        rw [← Nat.add_assoc] at q1 q2
        have hal : Ext wr (wr.alloc (.cells #[.string x.name, .string x.sort, .slice xa x.kids.length xc] 25)) := (Upd.refl _ wr).alloc _
        have HAL := Lib.hid hal
        have e0 := cellRow (alloc0 wr (.cells #[.string x.name, .string x.sort, .slice xa x.kids.length xc] 25)) 0 (.string x.name) rfl
        have e1 := cellRow (alloc0 wr (.cells #[.string x.name, .string x.sort, .slice xa x.kids.length xc] 25)) 1 (.string x.sort) rfl
        have e2 := cellRow (alloc0 wr (.cells #[.string x.name, .string x.sort, .slice xa x.kids.length xc] 25)) 2 (.slice xa x.kids.length xc) rfl
        clear hmem hrm hln hl0 hsn hx hat hkid hal hbw
        go_wp2_with fail
        refine (HIX.out _ HAL.out).mono ?_
        rintro e w8 ⟨r, rfl, hr, hu8, hb8⟩
        have HU8 : Hid (Upd (fun j => (Value.slice va l.length vc).ownBlock = some j) w w8) := Lib.hid ((HUk.out.ext HAL.out).trans' hu8 (fun j hj e => by rcases HBk.out j e with h | h; exact h; omega))
        have HB8 : Hid (∀ j, r.ownBlock = some j → (Value.slice va l.length vc).ownBlock = some j ∨ w.heap.size ≤ j) := Lib.hid (fun j hj => by
          rcases hb8 j hj with h | h
          · exact HBk.out j h
          · have h1 := HAL.out.size; have h2 := HUk.out.size; exact .inr (by omega))
        have HFr := Lib.hid hr
        obtain ⟨ra, rc, hrv⟩ := own_shape hr
        subst hrv
        clear hr hu8 hb8 q0 q1 q2 e0 e1 e2 HIX
        go_wp2_with fail
        go_roundg (L.length - (k + 1))
        case measure => omega
        case rel => exact ⟨k + 1, by go_num, rfl, by omega, HFr, HU8, HB8⟩
      · obtain rfl : k = L.length := by omega
        have z2 : decide ((L.length : Int) < (L.length : Int)) = false := decide_eq_false (by omega)
        have HFL := HFk.out
        rw [List.take_length] at HFL
        have HFQ := Lib.hid HFL
        clear HFL
        go_wp2_with fail
        go_ret
        rw [HOPN.out]
        refine ⟨_, rfl, ?_, HUk.out, HBk.out⟩
        have h9 := HFk.out
        rw [List.take_length] at h9
        have e9 : L.take L.length = L := List.take_length
        simp only [e9]
        exact h9

end Go.Proofs.YtiimccogojkldaaGreatDoor

/- precedence and formed. -/
namespace Go.Proofs.YtiimccogojkldaaGreatDoor
open Go.RowKit Go.Hw Go
set_option linter.unusedVariables false
set_option linter.unusedSimpArgs false

open Tm
theorem con_x (l : List By) (x : By) (v : Value) (S : Nat → Prop) (w : World) (hR : StR S w v l) (hl : l.length ≤ 1000000) :
    Calls Tryz.prog 73 #[v, .string x] w fun e w' => e = .returned (.bool (decide (x ∈ l))) ∧ Ext w w' := by
  obtain ⟨a, cap, rfl⟩ := SlR.shape hR
  by_cases h0 : 0 < l.length
  · obtain ⟨g, off, hga, _, hat⟩ := SlR.one_at (d := nul) hR h0
    subst hga
    refine (Tryz.slices_Contains_string g off l.length cap l x w (Nat.le_refl _) (by omega) (fun j hj => hat j hj)).mono ?_
    rintro e w' ⟨rfl, rfl⟩
    refine ⟨?_, Upd.refl _ _⟩
    rw [List.take_length]
    suffices h : Lib.containsS l x = decide (x ∈ l) by rw [h]
    rw [Bool.eq_iff_iff, decide_eq_true_eq, Lib.containsS_iff]
  · have hl0 : l = [] := List.eq_nil_of_length_eq_zero (by omega)
    subst hl0
    refine (Tryz.slices_Contains_string_empty a cap x w).mono ?_
    rintro e w' ⟨rfl, rfl⟩
    exact ⟨rfl, Upd.refl _ _⟩
set_option maxRecDepth 100000 in
set_option maxHeartbeats 2000000 in
theorem prec_x (l : List By) (v : Value) (S : Nat → Prop) (w : World) (hR : StR S w v l) (htab : AscT w) (hbl : l.length ≤ 1000000) : Calls Tryz.prog 39 #[v] w fun e w' => e = .returned (.bool (precP nmB l)) ∧ Ext w w' := by
  have HR := Lib.hid hR
  have HTAB := Lib.hid htab
  obtain ⟨a, cap, rfl⟩ := SlR.shape hR
  clear hR htab
  by_cases hlen : 100 < l.length
  · have HV : Hid (precP nmB l = false) := Lib.hid (by unfold precP; rw [decide_eq_false (by omega)]; rfl)
    have z1 : (100 : Int) < (l.length : Int) := by omega
    go_enter Tryz.func39, Tryz.ntmps39
    go_wp2_with fail
    go_ret
    rw [HV.out]
    exact ⟨rfl, Upd.refl _ _⟩
  · have z1 : ¬ (100 : Int) < (l.length : Int) := by omega
    go_enter Tryz.func39, Tryz.ntmps39
    go_wp2_with fail
    clear z1
    go_loopg [10] l.length (fun gk iv wr => ∃ k : Nat, iv = .int .i64 (k : Int) ∧ gk = l.length - k ∧ k ≤ l.length ∧ Hid (∀ j, j < k → nmB (bg l j) = true ∧ bg l j ∉ l.take j) ∧ Hid (Ext w wr))
    case atStart => exact ⟨0, rfl, rfl, Nat.zero_le _, Lib.hid (fun j h => absurd h (Nat.not_lt_zero _)), Lib.hid (Upd.refl _ _)⟩
    case round =>
      obtain ⟨k, rfl, rfl, hk, HC, HE⟩ := hrel
      by_cases hlt : k < l.length
      · have HRk := Lib.hid ((StR.ext HR.out HE.out).to (k := k) (by omega))
        have hcap : k ≤ cap := Nat.le_trans hk (SlR.le_cap HR.out rfl)
        obtain ⟨g, off, rfl, _, hat⟩ := StR.at_ (StR.ext HR.out HE.out) (by omega)
        have q0 := hat k hlt
        have z0 : (0 : Int) ≤ (k : Int) := by omega
        have z1 : (k : Int) < (l.length : Int) := by omega
        have z2 : decide ((k : Int) < (l.length : Int)) = true := decide_eq_true z1
        have z2' : decide (k < l.length) = true := decide_eq_true hlt
        have z3 : (k : Int) ≤ (l.length : Int) := by omega
        clear hat
        obtain ⟨x, hx⟩ : ∃ x, bg l k = x := ⟨_, rfl⟩
        have HX := Lib.hid hx
        rw [hx] at q0
        clear hx
        have hl100 : l.length ≤ 100 := by omega
        have HNA := Lib.hid (isName_x x wr (asc_ext HTAB.out HE.out))
        have HCO := Lib.hid (fun W (hW : Ext wr W) => con_x (l.take k) x _ S W (StR.ext HRk.out hW) (by rw [List.length_take]; omega))
        have htl : (l.take k).length = k := by rw [List.length_take]; omega
        have HST : Hid (nmB x = false ∨ x ∈ l.take k → precP nmB l = false) := Lib.hid (fun h => precP_stop hlt (by rw [show l.getD k nul = x from HX.out]; exact h))
        cases hnb : nmB x
        · rw [hnb] at HNA
          have HV := Lib.hid (HST.out (.inl hnb))
          clear hnb htl
          go_wp2_with fail
          refine HNA.out.mono ?_
          rintro e w4 ⟨rfl, hw4⟩
          have H4 := Lib.hid (HE.out.trans hw4)
          clear hw4
          go_wp2_with fail
          go_ret
          rw [HV.out]
          exact ⟨rfl, H4.out⟩
        · rw [hnb] at HNA
          have HNB := Lib.hid hnb
          clear hnb
          have HCX := HCO
          clear htl HCO
          by_cases hm : x ∈ l.take k
          · have hmd : decide (x ∈ l.take k) = true := decide_eq_true hm
            rw [hmd] at HCX
            have HV := Lib.hid (HST.out (.inr hm))
            clear hmd hm
            go_wp2_with fail
            refine HNA.out.mono ?_
            rintro e w4 ⟨rfl, hw4⟩
            have H4 := Lib.hid (HE.out.trans hw4)
            have HW4 := Lib.hid hw4
            clear hw4
            go_wp2_with fail
            refine (HCX.out _ HW4.out).mono ?_
            rintro e w5 ⟨rfl, hw5⟩
            have H5 := Lib.hid (H4.out.trans hw5)
            clear hw5
            go_wp2_with fail
            go_ret
            rw [HV.out]
            exact ⟨rfl, H5.out⟩
          · have hmd : decide (x ∈ l.take k) = false := decide_eq_false hm
            rw [hmd] at HCX
            have HN : Hid (∀ j, j < k + 1 → nmB (bg l j) = true ∧ bg l j ∉ l.take j) := Lib.hid (fun j hj => by
              rcases Nat.lt_succ_iff_lt_or_eq.1 hj with h5 | h5
              · exact HC.out j h5
              · rw [h5, HX.out]; exact ⟨HNB.out, hm⟩)
            clear hmd hm
            go_wp2_with fail
            refine HNA.out.mono ?_
            rintro e w4 ⟨rfl, hw4⟩
            have H4 := Lib.hid (HE.out.trans hw4)
            have HW4 := Lib.hid hw4
            clear hw4
            go_wp2_with fail
            refine (HCX.out _ HW4.out).mono ?_
            rintro e w5 ⟨rfl, hw5⟩
            have H5 := Lib.hid (H4.out.trans hw5)
            clear hw5 q0
            go_wp2_with fail
            go_roundg (l.length - (k + 1))
            case measure => omega
            case rel => exact ⟨k + 1, by go_num, rfl, by omega, HN, H5⟩
      · obtain rfl : k = l.length := by omega
        have z2 : decide ((l.length : Int) < (l.length : Int)) = false := decide_eq_false (by omega)
        have HV : Hid (precP nmB l = true) := Lib.hid (by
          unfold precP
          rw [decide_eq_true (by omega), Bool.true_and, List.all_eq_true]
          intro i hi
          have h9 := HC.out i (List.mem_range.1 hi)
          rw [Bool.and_eq_true, Bool.not_eq_true', decide_eq_false_iff_not]
          exact h9)
        go_wp2_with fail
        go_ret
        rw [HV.out]
        exact ⟨rfl, HE.out⟩
set_option maxRecDepth 100000 in
set_option maxHeartbeats 2000000 in
theorem idxT74_x (p : Tm → Bool) (L : List Tm) (v : Value) (S : Nat → Prop) (w : World) (hR : TlR S w L v) (hl : L.length ≤ 1000000)
    (hf : ∀ t ∈ L, ∀ u W, Ext w W → TmR S W t (tV t u) → Calls Tryz.prog 74 #[tV t u] W fun e W' => e = .returned (.bool (p t)) ∧ Ext W W') :
    Calls Tryz.prog 54 #[v, .func (.func 74) #[] #[]] w fun e w' => ∃ r : Int, e = .returned (.int .i64 r) ∧ decide (0 ≤ r) = L.any p ∧ Ext w w' := by
  obtain ⟨a, cap, rfl⟩ := hR.shape
  have HR := Lib.hid hR
  have HF := Lib.hid hf
  clear hR hf
  go_enter Tryz.func54, Tryz.ntmps54
  go_wp2_with fail
  go_loopg [8] L.length (fun gk iv wr => ∃ k : Nat, iv = .int .i64 (k : Int) ∧ gk = L.length - k ∧ k ≤ L.length ∧ Hid (Ext w wr) ∧ Hid ((L.take k).any p = false))
  case atStart => exact ⟨0, rfl, rfl, Nat.zero_le _, Lib.hid (Upd.refl _ _), Lib.hid rfl⟩
  case round =>
    obtain ⟨k, rfl, rfl, hk, HE, HM⟩ := hrel
    by_cases hlt : k < L.length
    · obtain ⟨g, off, hga, _, hat⟩ := (HR.out.ext HE.out).at_ (by omega)
      subst hga
      obtain ⟨xa, xc, q0, q1, q2, hkid⟩ := hat k hlt
      rw [← Nat.add_assoc] at q1 q2
      have z0 : (0 : Int) ≤ (k : Int) := by omega
      have z1 : (k : Int) < (L.length : Int) := by omega
      have z2 : decide ((k : Int) < (L.length : Int)) = true := decide_eq_true z1
      have z2' : decide (k < L.length) = true := decide_eq_true hlt
      have hmem := tg_in hlt
      have HFX := Lib.hid (HF.out _ hmem _ wr HE.out ⟨xa, xc, rfl, hkid⟩)
      have HN : Hid (p (tg L k) = false → (L.take (k + 1)).any p = false) := Lib.hid (fun h => by
        rw [tk_snoc L k hlt, List.any_append, HM.out, List.any_cons, List.any_nil, h]
        rfl)
      have HY : Hid (p (tg L k) = true → L.any p = true) := Lib.hid (fun h => List.any_eq_true.2 ⟨_, hmem, h⟩)
      obtain ⟨x, hx⟩ : ∃ x, tg L k = x := ⟨_, rfl⟩
      rw [hx] at q0 q1 q2 HFX HN HY
      dsimp only [tV] at HFX
      obtain ⟨b, hb⟩ : ∃ b, p x = b := ⟨_, rfl⟩
      rw [hb] at HFX HN HY
      clear hat hmem hx hb HM hkid
      go_wp2_with fail
      refine HFX.out.mono ?_
      rintro e w4 ⟨rfl, hw4⟩
      have H4 := Lib.hid (HE.out.trans hw4)
      clear hw4 q0 q1 q2 HFX HE
      cases b
      · have HN2 := Lib.hid (HN.out rfl)
        clear HN HY
        go_wp2_with fail
        go_roundg (L.length - (k + 1))
        case measure => omega
        case rel => exact ⟨k + 1, by go_num, rfl, by omega, H4, HN2⟩
      · have HY2 := Lib.hid (HY.out rfl)
        clear HN HY
        go_wp2_with fail
        go_ret
        exact ⟨_, rfl, by rw [HY2.out]; exact decide_eq_true z0, H4.out⟩
    · obtain rfl : k = L.length := by omega
      have z2 : decide ((L.length : Int) < (L.length : Int)) = false := decide_eq_false (by omega)
      have HM2 := HM.out
      rw [List.take_length] at HM2
      have HM3 := Lib.hid HM2
      clear HM2
      go_wp2_with fail
      go_ret
      exact ⟨_, rfl, by rw [HM3.out]; rfl, HE.out⟩
set_option maxRecDepth 100000 in
set_option maxHeartbeats 2000000 in
theorem conT74_x (p : Tm → Bool) (L : List Tm) (v : Value) (S : Nat → Prop) (w : World) (hR : TlR S w L v) (hl : L.length ≤ 1000000)
    (hf : ∀ t ∈ L, ∀ u W, Ext w W → TmR S W t (tV t u) → Calls Tryz.prog 74 #[tV t u] W fun e W' => e = .returned (.bool (p t)) ∧ Ext W W') :
    Calls Tryz.prog 22 #[v, .func (.func 74) #[] #[]] w fun e w' => e = .returned (.bool (L.any p)) ∧ Ext w w' := by
  have HI := Lib.hid (idxT74_x p L v S w hR hl hf)
  clear hR hf
  go_enter Tryz.func22, Tryz.ntmps22
  go_wp2_with fail
  refine HI.out.mono ?_
  rintro e w4 ⟨r, rfl, hr, hw4⟩
  have H4 := Lib.hid hw4
  have HRR := Lib.hid hr
  clear hw4 hr
  go_wp2_with fail
  go_ret
  rw [← HRR.out]
  exact ⟨rfl, H4.out⟩
set_option maxRecDepth 100000 in
set_option maxHeartbeats 2000000 in
theorem form1_x (t : Tm) (v : Value) (w : World) (htab : AscT w) (hR : TmR (fun k => k < w.heap.size) w t v) (hsz : (t.size : Int) ≤ 1000000000000) : Calls Tryz.prog 74 #[v] w fun e w' => e = .returned (.bool (!wf nmB t)) ∧ Ext w w' := by
  have HR := Lib.hid hR
  obtain ⟨a, cap, rfl, hT⟩ := hR
  have hb := alloc0 w (.cells #[.string t.name, .string t.sort, .slice a t.kids.length cap] 25)
  have HZ := Lib.hid ((Upd.refl (fun _ => False) w).alloc (.cells #[.string t.name, .string t.sort, .slice a t.kids.length cap] 25))
  have HS := Lib.hid (fun W (hW : Ext w W) => Size_x t _ W (asc_ext htab hW) ((HR.out.ext hW).weaken (fun k hk => Nat.lt_of_lt_of_le hk hW.size)) hsz)
  dsimp only [tV] at HS ⊢
  have c0 := cellRow hb 0 (.string t.name) rfl
  have c1 := cellRow hb 1 (.string t.sort) rfl
  have c2 := cellRow hb 2 (.slice a t.kids.length cap) rfl
  have hpos := size_pos t
  have hz : decide (szF t = 0) = !wf nmB t := by
    unfold szF
    by_cases h : wf nmB t = true
    · rw [if_pos h, h, decide_eq_false (by omega)]; rfl
    · rw [if_neg h, Bool.eq_false_iff.2 h]; rfl
  have HV := Lib.hid hz
  obtain ⟨X, hX⟩ : ∃ X, szF t = X := ⟨_, rfl⟩
  rw [hX] at HS HV
  clear hz hX hT hb
  go_enter Tryz.func74, Tryz.ntmps74
  go_wp2_with fail
  refine (HS.out _ HZ.out).mono ?_
  rintro e w4 ⟨rfl, hw4⟩
  have H4 := Lib.hid (HZ.out.ext hw4)
  clear hw4 c0 c1 c2
  by_cases h0 : X = 0
  · have t0 : ((X : Int) == 0) = true := by simp [h0]
    have t1 : (X : Int) = 0 := by omega
    have HV2 : Hid ((!wf nmB t) = true) := Lib.hid (by rw [← HV.out]; exact decide_eq_true h0)
    clear h0
    go_wp2_with fail
    go_ret
    rw [HV2.out]
    exact ⟨rfl, H4.out⟩
  · have t0 : ((X : Int) == 0) = false := by simp; omega
    have t1 : ¬ (X : Int) = 0 := by omega
    have HV2 : Hid ((!wf nmB t) = false) := Lib.hid (by rw [← HV.out]; exact decide_eq_false h0)
    clear h0
    go_wp2_with fail
    go_ret
    rw [HV2.out]
    exact ⟨rfl, H4.out⟩
set_option maxRecDepth 100000 in
set_option maxHeartbeats 2000000 in
theorem forms_x (L : List Tm) (v : Value) (w : World) (htab : AscT w) (hR : TlR (fun k => k < w.heap.size) w L v) (hl : L.length ≤ 1000000) (hsz : ∀ t ∈ L, (t.size : Int) ≤ 1000000000000) : Calls Tryz.prog 40 #[v] w fun e w' => e = .returned (.bool (L.all (wf nmB))) ∧ Ext w w' := by
  obtain ⟨a, cap, rfl⟩ := hR.shape
  have HC := Lib.hid (conT74_x (fun t => !wf nmB t) L _ _ w hR hl (fun t ht u W hW hT => form1_x t _ W (asc_ext htab hW) (hT.weaken (fun k hk => Nat.lt_of_lt_of_le hk hW.size)) (hsz t ht)))
  have HV : Hid ((!(L.any fun t => !wf nmB t)) = L.all (wf nmB)) := Lib.hid (by rw [List.not_any_eq_all_not]; congr 1; funext t; simp)
  clear hR hsz htab
  generalize (L.any fun t => !wf nmB t) = B at *
  go_enter Tryz.func40, Tryz.ntmps40
  go_wp2_with fail
  refine HC.out.mono ?_
  rintro e w4 ⟨rfl, hw4⟩
  have H4 := Lib.hid hw4
  clear hw4
  go_wp2_with fail
  go_ret
  rw [← HV.out]
  exact ⟨rfl, H4.out⟩

end Go.Proofs.YtiimccogojkldaaGreatDoor
