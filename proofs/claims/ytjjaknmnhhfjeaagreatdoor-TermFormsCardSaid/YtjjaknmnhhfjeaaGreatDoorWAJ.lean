/- The texts Y9 Y10 Y11 Y12 Y13 Y14, one behind the other. -/
import Derived.Test.YtjjaknmnhhfjeaaGreatDoorWAI
import Derived.Test.YtjjaknmnhhfjeaaGreatDoorWAD
import Derived.Test.YtjjaknmnhhfjeaaGreatDoorWAC
import Derived.Deep.RegionHeld3
/- Tokens of the program. -/
namespace Go.Proofs.YtjjaknmnhhfjeaaGreatDoor
open Go.RowKit Go.Hw Go
set_option linter.unusedVariables false
set_option linter.unusedSimpArgs false

open Tm
theorem st2_heap {W : World} {z : Nat} {t : TypeId} {v0 v1 : Value} (h : W.heap[z]? = some (.cells #[v0, v1] t (0, 0))) (u0 u1 : Value) : ((W.setCell ⟨z, 0, none⟩ u0).setCell ⟨z, 1, none⟩ u1).heap[z]? = some (.cells #[u0, u1] t (0, 0)) := by
  have := setBlock (setBlock h 0 u0) 1 u1
  simpa using this
theorem st2_upd (W : World) (z : Nat) (u0 u1 : Value) : Upd (fun k => k = z) W ((W.setCell ⟨z, 0, none⟩ u0).setCell ⟨z, 1, none⟩ u1) :=
  ((Upd.refl (fun k => k = z) W).setCell (p := ⟨z, 0, none⟩) (.inl rfl) u0).setCell (p := ⟨z, 1, none⟩) (.inl rfl) u1
theorem infoTk : (Tryz.prog.info? 114).map (fun i => (i.zero, i.size, i.bytes)) = some (some (.agg #[.int .i64 0, .string ⟨#[]⟩, .int .i64 0, .int .i64 0, .int .i64 0]), 5, 48) := by kernel_rfl
theorem news5 (W : World) (u0 u1 u2 u3 u4 : Value) : ∀ (j : Nat) (u : Value), [u0, u1, u2, u3, u4][j]? = some u → (W.alloc (.cells #[u0, u1, u2, u3, u4] 114)).cell? ((⟨W.heap.size, 0, none⟩ : Addr).add j) = some u := fun j u hj => by
  match j, hj with
  | 0, hj => simp at hj; subst hj; simp only [Addr.add]; exact cellRow (alloc0 _ _) 0 _ rfl
  | 1, hj => simp at hj; subst hj; simp only [Addr.add]; exact cellRow (alloc0 _ _) 1 _ rfl
  | 2, hj => simp at hj; subst hj; simp only [Addr.add]; exact cellRow (alloc0 _ _) 2 _ rfl
  | 3, hj => simp at hj; subst hj; simp only [Addr.add]; exact cellRow (alloc0 _ _) 3 _ rfl
  | 4, hj => simp at hj; subst hj; simp only [Addr.add]; exact cellRow (alloc0 _ _) 4 _ rfl
theorem one5 (a : Int) (b : ByteArray) (c d e : Int) : ∀ u ∈ [Value.int .i64 a, .string b, .int .i64 c, .int .i64 d, .int .i64 e], u.oneCell' = true := fun u hu => by
  simp at hu
  rcases hu with h | h | h | h | h <;> (subst h; rfl)
def skC (s : By) : Nat → Nat → Nat
  | 0, i => i
  | m + 1, i => if i < s.size ∧ byt s i ≠ 10 then skC s m (i + 1) else i
theorem skC_end {s : By} {m k : Nat} (hm : s.size - k ≤ m) (h : ¬ (k < s.size ∧ byt s k ≠ 10)) : skC s m k = k := by
  cases m with
  | zero => rfl
  | succ m => unfold skC; rw [if_neg h]
theorem skC_go {s : By} {m k : Nat} (hm : s.size - k ≤ m) (h : k < s.size ∧ byt s k ≠ 10) : ∃ m', skC s m k = skC s m' (k + 1) ∧ s.size - (k + 1) ≤ m' := by
  cases m with
  | zero => omega
  | succ m => exact ⟨m, by rw [skC, if_pos h], by omega⟩
theorem skC_le {s : By} : ∀ (m k : Nat), k ≤ s.size → k ≤ skC s m k ∧ skC s m k ≤ s.size
  | 0, k, h => ⟨Nat.le_refl _, h⟩
  | m + 1, k, h => by
    unfold skC
    split
    · rename_i h2
      have := skC_le (s := s) m (k + 1) (by omega)
      omega
    · exact ⟨Nat.le_refl _, h⟩
def wdE (s : By) : Nat → Nat → Nat
  | 0, i => i
  | m + 1, i => if i < s.size ∧ 2 ≤ clsN (byt s i) then wdE s m (i + 1) else i
theorem wdE_end {s : By} {m k : Nat} (hm : s.size - k ≤ m) (h : ¬ (k < s.size ∧ 2 ≤ clsN (byt s k))) : wdE s m k = k := by
  cases m with
  | zero => rfl
  | succ m => unfold wdE; rw [if_neg h]
theorem wdE_go {s : By} {m k : Nat} (hm : s.size - k ≤ m) (h : k < s.size ∧ 2 ≤ clsN (byt s k)) : ∃ m', wdE s m k = wdE s m' (k + 1) ∧ s.size - (k + 1) ≤ m' := by
  cases m with
  | zero => omega
  | succ m => exact ⟨m, by rw [wdE, if_pos h], by omega⟩
theorem wdE_le {s : By} : ∀ (m k : Nat), k ≤ s.size → k ≤ wdE s m k ∧ wdE s m k ≤ s.size
  | 0, k, h => ⟨Nat.le_refl _, h⟩
  | m + 1, k, h => by
    unfold wdE
    split
    · rename_i h2
      have := wdE_le (s := s) m (k + 1) (by omega)
      omega
    · exact ⟨Nat.le_refl _, h⟩
inductive TR where
  | full
  | ok (l : List Tok)
  | bad (ln col : Int)
def tkF (wd : By → Wd) (s : By) : Nat → Nat → Nat → Nat → List Tok → TR
  | 0, i, ln, bg, l => .ok (l ++ [⟨5, nul, 0, ln, (s.size : Int) - (bg : Int) + 1⟩])
  | n + 1, i, ln, bg, l => if ¬ i < s.size then .ok (l ++ [⟨5, nul, 0, ln, (s.size : Int) - (bg : Int) + 1⟩]) else
    if clsN (byt s i) = 1 then (if byt s i = 10 then tkF wd s n (i + 1) (ln + 1) (i + 1) l else tkF wd s n (i + 1) ln bg l) else
    if byt s i = 35 then tkF wd s n (skC s s.size i) ln bg l else
    if 2 ≤ clsN (byt s i) then (if (wd (s.extract i (wdE s s.size i))).ok = true then tkF wd s n (wdE s s.size i) ln bg (l ++ [⟨(wd (s.extract i (wdE s s.size i))).kind, (wd (s.extract i (wdE s s.size i))).text, (wd (s.extract i (wdE s s.size i))).n, ln, (i : Int) - (bg : Int) + 1⟩]) else .bad ln ((i : Int) - (bg : Int) + 1)) else
    if symF (s.extract i s.size) = [] then .bad ln ((i : Int) - (bg : Int) + 1) else tkF wd s n (i + (symF (s.extract i s.size)).length) ln bg (l ++ [⟨4, bs (symF (s.extract i s.size)), 0, ln, (i : Int) - (bg : Int) + 1⟩])
def tokF (wd : By → Wd) (s : By) : TR := if 65536 < s.size then .full else tkF wd s s.size 0 1 0 []
def TokP (n0 : Nat) (w' : World) (e : Ending) : TR → Prop
  | .full => e = .returned (.tuple #[.slice none 0 0, .agg #[.int .i64 0, .int .i64 0], .int .i64 4])
  | .bad ln col => e = .returned (.tuple #[.slice none 0 0, .agg #[.int .i64 ln, .int .i64 col], .int .i64 7])
  | .ok l => ∃ v, e = .returned (.tuple #[v, .agg #[.int .i64 0, .int .i64 0], .int .i64 0]) ∧ TkR (fun k => n0 ≤ k ∧ k < w'.heap.size) w' v l
theorem symF_len (t : By) : (symF t).length ≤ t.size := by
  have key : ∀ p : List UInt8, hpB t p = true → p.length ≤ t.size := fun p h => by
    have h2 : p <+: t.data.toList := List.isPrefixOf_iff_prefix.1 h
    exact h2.length_le
  unfold symF
  repeat' split
  all_goals first
    | (rename_i h; exact key _ h)
    | (rename_i h; simp only [List.length_cons, List.length_nil]; omega)
    | simp
set_option maxRecDepth 100000 in
set_option maxHeartbeats 8000000 in
theorem tokens_x (iF : By → Int × Bool) (s : By) (w : World) (htab : AscT w) (hwd : ∀ i k W, i < k → k ≤ s.size → (∀ j, i ≤ j → j < k → 2 ≤ clsN (byt s j)) → Ext w W → Calls Tryz.prog 99 #[.string (s.extract i k)] W fun e W' => WdR (wdF iF (s.extract i k)) e ∧ Ext W W') :
    Calls Tryz.prog 58 #[.string s] w fun e w' => TokP (w.heap.size + 1) w' e (tokF (wdF iF) s) ∧ Ext w w' := by
  have HWD := Lib.hid hwd
  have HE0 := Lib.hid ((Upd.refl (fun _ => False) w).alloc (.cells #[.int .i64 0, .int .i64 0] 45))
  have HP0 := Lib.hid (alloc0 w (.cells #[.int .i64 0, .int .i64 0] 45))
  have HSZ0 : Hid (w.heap.size + 1 ≤ (w.alloc (.cells #[.int .i64 0, .int .i64 0] 45)).heap.size) := Lib.hid (by simp)
  have HTF : Hid (tokF (wdF iF) s = if 65536 < s.size then .full else tkF (wdF iF) s s.size 0 1 0 []) := Lib.hid rfl
  obtain ⟨R, hR⟩ : ∃ R, tokF (wdF iF) s = R := ⟨_, rfl⟩
  rw [hR] at HTF ⊢
  obtain ⟨iT, hi, hz0, hz1, hz2⟩ := info_parts infoTk
  clear hR hwd htab
  have p0 := cellRow HP0.out 0 (.int .i64 0) rfl
  have p1 := cellRow HP0.out 1 (.int .i64 0) rfl
  have fp := fun j => frozenRow HP0.out j
  by_cases hbig : 65536 < s.size
  · have HV : Hid (R = .full) := Lib.hid (by rw [HTF.out, if_pos hbig])
    have z1 : (65536 : Int) < (s.size : Int) := by omega
    have z1' : decide ((65536 : Int) < (s.size : Int)) = true := decide_eq_true z1
    go_enter Tryz.func58, Tryz.ntmps58
    go_wp2_with fail
    refine bodyPost_ret (v := .tuple #[.slice none 0 0, .agg #[.int .i64 0, .int .i64 0], .int .i64 4]) (by simp [results, Tryz.results58, go_sem, p0, p1]) rfl ?_
    rw [HV.out]
    exact ⟨rfl, HE0.out⟩
  have z1 : ¬ (65536 : Int) < (s.size : Int) := by omega
  have z1' : decide ((65536 : Int) < (s.size : Int)) = false := decide_eq_false z1
  have HT0 : Hid (tkF (wdF iF) s s.size 0 1 0 [] = R) := Lib.hid (by rw [HTF.out, if_neg hbig])
  have HO0 : Hid ((w.alloc (.cells #[.int .i64 0, .int .i64 0] 45)).ownsRow (w.heap.size + 1) 114 5 (.slice none 0 0) 0 (tkCells [])) := Lib.hid ⟨rfl, .inl ⟨rfl, rfl⟩⟩
  clear HTF
  go_enter Tryz.func58, Tryz.ntmps58
  go_wp2_with fail
  clear z1 z1' p0 p1 fp
  generalize w.alloc (.cells #[.int .i64 0, .int .i64 0] 45) = w1 at *
  go_loopg [5, 6, 7, 8] s.size (fun gk x5 x6 x7 x8 wr => ∃ (n i ln bg : Nat) (l : List Tok) (la : Option Addr) (lc : Nat), x5 = .slice la l.length lc ∧ x6 = .int .i64 (ln : Int) ∧ x7 = .int .i64 (bg : Int) ∧ x8 = .int .i64 (i : Int) ∧ gk = s.size - i ∧ i ≤ s.size ∧ bg ≤ i ∧ ln ≤ i + 1 ∧ l.length ≤ i ∧ s.size - i ≤ n ∧ Hid (tkF (wdF iF) s n i ln bg l = R) ∧ Hid (wr.ownsRow (w.heap.size + 1) 114 5 (.slice la l.length lc) l.length (tkCells l)) ∧ Hid (wr.heap[w.heap.size]? = some (.cells #[.int .i64 0, .int .i64 0] 45 (0, 0))) ∧ Hid (Ext w wr) ∧ Hid (w.heap.size + 1 ≤ wr.heap.size))
  case atStart => exact ⟨s.size, 0, 1, 0, [], none, 0, rfl, rfl, rfl, rfl, rfl, Nat.zero_le _, Nat.le_refl _, by omega, Nat.le_refl _, by omega, HT0, HO0, HP0, HE0, HSZ0⟩
  case round =>
    clear HT0 HO0 HP0 HE0 HSZ0
    obtain ⟨n, i, ln, bg, l, la, lc, rfl, rfl, rfl, rfl, rfl, hi1, hbg, hln, hll, hn, HR, HO, HP, HE, HSZ⟩ := hrel
    have hsz := HSZ.out
    by_cases hlt : i < s.size
    case neg =>
      obtain rfl : i = s.size := by omega
      have HV : Hid (R = .ok (l ++ [⟨5, nul, 0, ln, (s.size : Int) - (bg : Int) + 1⟩])) := Lib.hid (by
        rw [← HR.out]
        cases n with
        | zero => rfl
        | succ n => rw [tkF, if_pos hlt])
      have w1w : IntKind.i64.wrap ((s.size : Int) - (bg : Int)) = (s.size : Int) - (bg : Int) := IntWalk.i64_in _ (by omega)
      have w2w : IntKind.i64.wrap ((s.size : Int) - (bg : Int) + 1) = (s.size : Int) - (bg : Int) + 1 := IntWalk.i64_in _ (by omega)
      have z2 : decide ((s.size : Int) < (s.size : Int)) = false := decide_eq_false (by omega)
      have HOA := Lib.hid (HO.out.alloc (.cells #[.int .i64 5, .string ⟨#[]⟩, .int .i64 0, .int .i64 (ln : Int), .int .i64 ((s.size : Int) - (bg : Int) + 1)] 114))
      clear HR hlt
      go_wp2_with (at_builtin; refine wpList_append_at _ rfl (.tmp 115) (.tmp 124) 98 rfl (w.heap.size + 1) 114 iT (.agg #[.int .i64 0, .string ⟨#[]⟩, .int .i64 0, .int .i64 0, .int .i64 0]) 5 48 Tryz.underlying98 hi hz0 hz1 hz2 rfl (by decide) _ _ _ rfl HOA.out ⟨wr.heap.size, 0, none⟩ 1 1 [Value.int .i64 5, .string ⟨#[]⟩, .int .i64 0, .int .i64 (ln : Int), .int .i64 ((s.size : Int) - (bg : Int) + 1)] rfl rfl ?c1a ?c2a ?c3a ?c4a ?c5a ?_)
      try (case c1a => exact news5 wr (.int .i64 5) (.string ⟨#[]⟩) (.int .i64 0) (.int .i64 (ln : Int)) (.int .i64 ((s.size : Int) - (bg : Int) + 1)))
      case c2a => first | exact one5 _ _ _ _ _ | exact ⟨rfl, rfl, rfl, rfl, rfl⟩
      case c3a => unfold maxLen; omega
      case c4a => omega
      case c5a => have := alloc_size wr (.cells #[.int .i64 5, .string ⟨#[]⟩, .int .i64 0, .int .i64 (ln : Int), .int .i64 ((s.size : Int) - (bg : Int) + 1)] 114); omega
      intro v' w7 hG
      obtain ⟨xa, xc, hxs⟩ := own_shape hG.own
      subst hxs
      have hb7 := hG.upd.heap (allocOld HP.out (.cells #[.int .i64 5, .string ⟨#[]⟩, .int .i64 0, .int .i64 (ln : Int), .int .i64 ((s.size : Int) - (bg : Int) + 1)] 114)) (fun e => by have := (HO.out.lt _ e).1; omega)
      have HE7 : Hid (Ext w w7) := Lib.hid ((HE.out.alloc (.cells #[.int .i64 5, .string ⟨#[]⟩, .int .i64 0, .int .i64 (ln : Int), .int .i64 ((s.size : Int) - (bg : Int) + 1)] 114)).trans' hG.upd (fun j hj e => by have := (HO.out.lt _ e).1; omega))
      have HG := Lib.hid hG
      have p0 := cellRow hb7 0 (.int .i64 0) rfl
      have p1 := cellRow hb7 1 (.int .i64 0) rfl
      have fp := fun j => frozenRow hb7 j
      have HB7 := Lib.hid hb7
      clear hG hb7 w1w w2w z2
      go_wp2_with fail
      have hr2 := st2_heap HB7.out (.int .i64 0) (.int .i64 0)
      have hu := st2_upd w7 w.heap.size (.int .i64 0) (.int .i64 0)
      have e0 := cellRow hr2 0 _ rfl
      have e1 := cellRow hr2 1 _ rfl
      refine bodyPost_ret (v := .tuple #[.slice xa (l.length + 1) xc, .agg #[.int .i64 0, .int .i64 0], .int .i64 0]) (by simp [results, Tryz.results58, go_sem, e0, e1]) rfl ?_
      have hue := HE7.out.trans' hu (fun j hj e => by omega)
      rw [HV.out]
      refine ⟨⟨_, rfl, ?_⟩, hue⟩
      have ho := own_kept HG.out.own hu (fun j hj e => by have := (HG.out.own.lt _ hj).1; omega)
      unfold TkR
      rw [tkCells_snoc, List.length_append]
      exact SlR.weaken (SlR.of_own ho) (fun j hj => ⟨(ho.lt j hj).1, (ho.lt j hj).2⟩)
    obtain ⟨m, rfl⟩ : ∃ m, n = m + 1 := ⟨n - 1, by omega⟩
    have hby : (s[i]'hlt).toNat = byt s i := by unfold byt; rw [at_list s i hlt]
    have hr := HR.out
    rw [tkF, if_neg (fun h => h hlt)] at hr
    obtain ⟨c, hc⟩ : ∃ c, byt s i = c := ⟨_, rfl⟩
    rw [hc] at hr hby
    have hc255 : c ≤ 255 := by rw [← hby]; have := (s[i]'hlt).toNat_lt; omega
    have i0' : (0 : Int) ≤ (i : Int) := by omega
    have i1' : (i : Int) < (s.size : Int) := by omega
    have z2 : decide ((i : Int) < (s.size : Int)) = true := decide_eq_true i1'
    have z2' : decide (i < s.size) = true := decide_eq_true hlt
    have w1w : IntKind.i64.wrap ((i : Int) - (bg : Int)) = (i : Int) - (bg : Int) := IntWalk.i64_in _ (by omega)
    have w2w : IntKind.i64.wrap ((i : Int) - (bg : Int) + 1) = (i : Int) - (bg : Int) + 1 := IntWalk.i64_in _ (by omega)
    have HQ := Lib.hid ((Upd.refl (fun _ => False) wr).alloc (.cells #[.int .i64 (ln : Int), .int .i64 ((i : Int) - (bg : Int) + 1)] 45))
    have HBP := Lib.hid (alloc0 wr (.cells #[.int .i64 (ln : Int), .int .i64 ((i : Int) - (bg : Int) + 1)] 45))
    have HOQ := Lib.hid (HO.out.alloc (.cells #[.int .i64 (ln : Int), .int .i64 ((i : Int) - (bg : Int) + 1)] 45))
    have HPQ := Lib.hid (allocOld HP.out (.cells #[.int .i64 (ln : Int), .int .i64 ((i : Int) - (bg : Int) + 1)] 45))
    have HEQ := Lib.hid (HE.out.trans HQ.out)
    have CLS := Lib.hid (class_x c (wr.alloc (.cells #[.int .i64 (ln : Int), .int .i64 ((i : Int) - (bg : Int) + 1)] 45)) hc255)
    have HR2 := Lib.hid hr
    have HCB := Lib.hid hc
    have hszq : w.heap.size + 1 ≤ (wr.alloc (.cells #[.int .i64 (ln : Int), .int .i64 ((i : Int) - (bg : Int) + 1)] 45)).heap.size := Nat.le_trans hsz HQ.out.size
    clear HR hr hc
    go_wp2_with fail
    generalize wr.alloc (.cells #[.int .i64 (ln : Int), .int .i64 ((i : Int) - (bg : Int) + 1)] 45) = wq at *
    obtain ⟨nb, hnb⟩ : ∃ nb, wr.heap.size = nb := ⟨_, rfl⟩
    try rw [hnb] at HBP
    try rw [hnb]
    have hnbw : w.heap.size + 1 ≤ nb := by omega
    clear hnb
    refine CLS.out.mono ?_
    rintro e w' ⟨rfl, rfl⟩
    obtain ⟨K, hK⟩ : ∃ K, clsN c = K := ⟨_, rfl⟩
    rw [hK] at HR2 ⊢
    clear CLS HO HP HE HSZ
    by_cases hK1 : K = 1
    · subst hK1
      by_cases h10 : c = 10
      · subst h10
        have HR3 := HR2.out
        rw [if_pos rfl, if_pos rfl] at HR3
        have HR3 := Lib.hid HR3
        clear HR2 hK
        go_wp2_with fail
        go_roundg (s.size - (i + 1))
        case measure => omega
        case rel => exact ⟨m, i + 1, ln + 1, i + 1, l, la, lc, rfl, by go_num, by go_num, by go_num, rfl, by omega, by omega, by omega, by omega, by omega, HR3, HOQ, HPQ, HEQ, Lib.hid hszq⟩
      · have HR3 := HR2.out
        rw [if_pos rfl, if_neg h10] at HR3
        have HR3 := Lib.hid HR3
        have t10 : ((c : Int) == 10) = false := beq_eq_false_iff_ne.2 (by omega)
        clear HR2 hK
        go_wp2_with fail
        go_roundg (s.size - (i + 1))
        case measure => omega
        case rel => exact ⟨m, i + 1, ln, bg, l, la, lc, rfl, rfl, rfl, by go_num, rfl, by omega, by omega, by omega, by omega, by omega, HR3, HOQ, HPQ, HEQ, Lib.hid hszq⟩
    have HR3 := HR2.out
    rw [if_neg hK1] at HR3
    have u1 : ((K : Int) == 1) = false := beq_eq_false_iff_ne.2 (by omega)
    by_cases h35 : c = 35
    · subst h35
      rw [if_pos rfl] at HR3
      have HR4 := Lib.hid HR3
      obtain ⟨E, hE⟩ : ∃ E, skC s s.size i = E := ⟨_, rfl⟩
      rw [hE] at HR4
      have hEi : i < E := by
        obtain ⟨m', h1, h2⟩ := skC_go (s := s) (m := s.size) (k := i) (by omega) ⟨hlt, by rw [HCB.out]; decide⟩
        have h3 := (skC_le m' (i + 1) (s := s) (by omega)).1
        omega
      have HE0 := Lib.hid hE
      clear HR2 HR3 hK hE
      go_wp2_with fail
      clear u1 z2 z2' i0' i1' w1w w2w hby
      obtain ⟨wc, hwc⟩ : ∃ wc, wc = wq := ⟨_, rfl⟩
      rw [← hwc] at HOQ HPQ HEQ hszq
      have HWC : Hid (wc = wq) := Lib.hid hwc
      clear hwc
      go_loopg [8] (s.size - i) (fun gk iv wr => ∃ (k m' : Nat), iv = .int .i64 (k : Int) ∧ gk = s.size - k ∧ i ≤ k ∧ k ≤ s.size ∧ s.size - k ≤ m' ∧ Hid (skC s m' k = E) ∧ Hid (wc = wr))
      case atStart => exact ⟨i, s.size, rfl, rfl, Nat.le_refl _, by omega, by omega, HE0, HWC⟩
      case round =>
        clear HE0 HWC
        obtain ⟨k, m', rfl, rfl, hik, hks, hkm, HSK, HWC⟩ := hrel
        have hwc := HWC.out
        subst hwc
        by_cases hkt : k < s.size
        · have hbk : (s[k]'hkt).toNat = byt s k := by unfold byt; rw [at_list s k hkt]
          have j0' : (0 : Int) ≤ (k : Int) := by omega
          have j1' : (k : Int) < (s.size : Int) := by omega
          have y2 : decide ((k : Int) < (s.size : Int)) = true := decide_eq_true j1'
          by_cases hd : byt s k = 10
          · have hke : E = k := by rw [← HSK.out]; exact skC_end hkm (fun h => h.2 hd)
            rw [hd] at hbk
            subst hke
            clear HSK hd
            go_wp2_with fail
            go_roundg (s.size - E)
            case measure => omega
            case rel => exact ⟨m, E, ln, bg, l, la, lc, rfl, rfl, rfl, rfl, rfl, by omega, by omega, by omega, by omega, by omega, HR4, HOQ, HPQ, HEQ, Lib.hid hszq⟩
          · obtain ⟨m2, h1, h2⟩ := skC_go hkm ⟨hkt, hd⟩
            have HSK2 : Hid (skC s m2 (k + 1) = E) := Lib.hid (by rw [← h1]; exact HSK.out)
            obtain ⟨d, hdd⟩ : ∃ d, byt s k = d := ⟨_, rfl⟩
            rw [hdd] at hd hbk
            have t10 : ((d : Int) == 10) = false := beq_eq_false_iff_ne.2 (by omega)
            have t10' : ((d : Int) != 10) = true := bne_iff_ne.2 (by omega)
            clear HSK h1 hdd
            go_wp2_with fail
            go_roundg (s.size - (k + 1))
            case measure => omega
            case rel => exact ⟨k + 1, m2, by go_num, rfl, by omega, by omega, h2, HSK2, Lib.hid rfl⟩
        · obtain rfl : k = s.size := by omega
          have hke : E = s.size := by rw [← HSK.out]; exact skC_end hkm (fun h => hkt h.1)
          have y2 : decide ((s.size : Int) < (s.size : Int)) = false := decide_eq_false (by omega)
          subst hke
          clear HSK
          go_wp2_with fail
          go_roundg (s.size - s.size)
          case measure => omega
          case rel => exact ⟨m, s.size, ln, bg, l, la, lc, rfl, rfl, rfl, rfl, rfl, by omega, by omega, by omega, by omega, by omega, HR4, HOQ, HPQ, HEQ, Lib.hid hszq⟩
    rw [if_neg h35] at HR3
    have u35 : ((c : Int) == 35) = false := beq_eq_false_iff_ne.2 (by omega)
    by_cases hK2 : 2 ≤ K
    · rw [if_pos hK2] at HR3
      obtain ⟨E, hE⟩ : ∃ E, wdE s s.size i = E := ⟨_, rfl⟩
      rw [hE] at HR3
      have hEi : i < E ∧ E ≤ s.size := by
        obtain ⟨m', h1, h2⟩ := wdE_go (s := s) (m := s.size) (k := i) (by omega) ⟨hlt, by rw [HCB.out, hK]; exact hK2⟩
        have h3 := wdE_le m' (i + 1) (s := s) (by omega)
        omega
      have HR4 := Lib.hid HR3
      have HE0 := Lib.hid hE
      have u2 : decide ((2 : Int) ≤ (K : Int)) = true := decide_eq_true (by omega)
      have u2' : decide (2 ≤ K) = true := decide_eq_true hK2
      clear HR2 HR3 hK hE
      go_wp2_with fail
      clear u1 u2 u2' u35 z2 z2' w1w w2w hby
      obtain ⟨wc, hwc⟩ : ∃ wc, wc = wq := ⟨_, rfl⟩
      rw [← hwc] at HOQ HPQ HEQ hszq HBP
      have HWC : Hid (wc = wq) := Lib.hid hwc
      clear hwc
      go_loopg [11] (s.size - i) (fun gk iv wr => ∃ (k m' : Nat), iv = .int .i64 (k : Int) ∧ gk = s.size - k ∧ i ≤ k ∧ k ≤ s.size ∧ s.size - k ≤ m' ∧ Hid (wdE s m' k = E) ∧ Hid (∀ j, i ≤ j → j < k → 2 ≤ clsN (byt s j)) ∧ Hid (wc = wr))
      case atStart => exact ⟨i, s.size, rfl, rfl, Nat.le_refl _, by omega, by omega, HE0, Lib.hid (fun j h1 h2 => absurd h1 (by omega)), HWC⟩
      case round =>
        clear HE0 HWC
        obtain ⟨k, m', rfl, rfl, hik, hks, hkm, HSK, HAL, HWC⟩ := hrel
        have hwc := HWC.out
        subst hwc
        by_cases hgo : k < s.size ∧ 2 ≤ clsN (byt s k)
        · obtain ⟨hkt, hd⟩ := hgo
          have hbk : (s[k]'hkt).toNat = byt s k := by unfold byt; rw [at_list s k hkt]
          have j0' : (0 : Int) ≤ (k : Int) := by omega
          have j1' : (k : Int) < (s.size : Int) := by omega
          have y2 : decide ((k : Int) < (s.size : Int)) = true := decide_eq_true j1'
          obtain ⟨m2, h1, h2⟩ := wdE_go hkm ⟨hkt, hd⟩
          have HSK2 : Hid (wdE s m2 (k + 1) = E) := Lib.hid (by rw [← h1]; exact HSK.out)
          have HAL2 : Hid (∀ j, i ≤ j → j < k + 1 → 2 ≤ clsN (byt s j)) := Lib.hid (fun j h3 h4 => by
            rcases Nat.lt_succ_iff_lt_or_eq.1 h4 with h5 | h5
            · exact HAL.out j h3 h5
            · rw [h5]; exact hd)
          obtain ⟨d, hdd⟩ : ∃ d, byt s k = d := ⟨_, rfl⟩
          rw [hdd] at hd hbk
          have hd255 : d ≤ 255 := by rw [← hbk]; have := (s[k]'hkt).toNat_lt; omega
          have CD := Lib.hid (class_x d wc hd255)
          have y3 : decide ((2 : Int) ≤ ((clsN d : Nat) : Int)) = true := decide_eq_true (by omega)
          have y3' : decide (2 ≤ clsN d) = true := decide_eq_true hd
          generalize clsN d = Y at *
          clear HSK HAL h1 hdd hd
          go_wp2_with fail
          refine CD.out.mono ?_
          rintro e w' ⟨rfl, rfl⟩
          go_wp2_with fail
          go_roundg (s.size - (k + 1))
          case measure => omega
          case rel => exact ⟨k + 1, m2, by go_num, rfl, by omega, by omega, h2, HSK2, HAL2, Lib.hid rfl⟩
        · have hke : E = k := by rw [← HSK.out]; exact wdE_end hkm hgo
          subst hke
          have HW := Lib.hid (HWD.out i E wc hEi.1 hEi.2 HAL.out HEQ.out)
          have k0' : (0 : Int) ≤ (E : Int) := by omega
          have k1' : (i : Int) ≤ (E : Int) := by omega
          have k2' : (E : Int) ≤ (s.size : Int) := by omega
          obtain ⟨⟨qk, qt, qn, qo⟩, hq⟩ : ∃ q, wdF iF (s.extract i E) = q := ⟨_, rfl⟩
          rw [hq] at HW HR4
          dsimp only at HR4
          have HQ5 : ∀ w5, Ext wc w5 → Hid (Ext w (w5.alloc (.cells #[.int .i64 (qk : Int), .string qt, .int .i64 qn, .int .i64 0, .int .i64 0] 114))) := fun w5 h => Lib.hid ((HEQ.out.trans h).alloc _)
          have HWQ : Hid (∀ (P : Prop), (E < s.size → (2 ≤ clsN (byt s E)) = False) → P → P) := Lib.hid (fun P _ h => h)
          clear HSK hq HAL
          have HSTEP : ∀ (K0 : Prop), K0 → K0 := fun _ h => h
          by_cases hkt : E < s.size
          · have hbk : (s[E]'hkt).toNat = byt s E := by unfold byt; rw [at_list s E hkt]
            have j1' : (E : Int) < (s.size : Int) := by omega
            have y2 : decide ((E : Int) < (s.size : Int)) = true := decide_eq_true j1'
            obtain ⟨d, hdd⟩ : ∃ d, byt s E = d := ⟨_, rfl⟩
            rw [hdd] at hgo hbk
            have hd255 : d ≤ 255 := by rw [← hbk]; have := (s[E]'hkt).toNat_lt; omega
            have CD := Lib.hid (class_x d wc hd255)
            have hd : ¬ 2 ≤ clsN d := fun h => hgo ⟨hkt, h⟩
            have y3 : decide ((2 : Int) ≤ ((clsN d : Nat) : Int)) = false := decide_eq_false (by omega)
            have y3' : decide (2 ≤ clsN d) = false := decide_eq_false hd
            generalize clsN d = Y at *
            clear hdd hd hgo
            go_wp2_with fail
            refine CD.out.mono ?_
            rintro e w' ⟨rfl, rfl⟩
            clear CD hbk
            go_wp2_with fail
            refine HW.out.mono ?_
            rintro e w5 ⟨he, hw5⟩
            have he : e = _ := he
            subst he
            dsimp only
            have HB6 := Lib.hid (alloc0 w5 (.cells #[.int .i64 (qk : Int), .string qt, .int .i64 qn, .int .i64 0, .int .i64 0] 114))
            have HU6 := Lib.hid (hw5.alloc (.cells #[.int .i64 (qk : Int), .string qt, .int .i64 qn, .int .i64 0, .int .i64 0] 114))
            have hs5 := hw5.size
            have hs6 := alloc_size w5 (.cells #[.int .i64 (qk : Int), .string qt, .int .i64 qn, .int .i64 0, .int .i64 0] 114)
            cases qo
            · have HV : Hid (R = .bad (ln : Int) ((i : Int) - (bg : Int) + 1)) := Lib.hid (by rw [← HR4.out]; rfl)
              clear HR4 hw5
              go_upto_region 26 with fail
              generalize w5.alloc (.cells #[.int .i64 (qk : Int), .string qt, .int .i64 qn, .int .i64 0, .int .i64 0] 114) = w6 at *
              have HP4 := Lib.hid (HU6.out.heap HPQ.out (fun h => h))
              have HB4 := Lib.hid (HU6.out.heap HBP.out (fun h => h))
              have HE4 := Lib.hid (HEQ.out.trans HU6.out)
              have b0 := cellRow HB4.out 0 (.int .i64 (ln : Int)) rfl
              have b1 := cellRow HB4.out 1 (.int .i64 ((i : Int) - (bg : Int) + 1)) rfl
              have p0 := cellRow HP4.out 0 (.int .i64 0) rfl
              have p1 := cellRow HP4.out 1 (.int .i64 0) rfl
              have fp := fun j => frozenRow HP4.out j
              go_wp2_with fail
              go_region
              go_wp2_with fail
              have hr2 := st2_heap HP4.out (.int .i64 (ln : Int)) (.int .i64 ((i : Int) - (bg : Int) + 1))
              have hu := st2_upd w6 w.heap.size (.int .i64 (ln : Int)) (.int .i64 ((i : Int) - (bg : Int) + 1))
              have e0 := cellRow hr2 0 _ rfl
              have e1 := cellRow hr2 1 _ rfl
              refine bodyPost_ret (v := .tuple #[.slice none 0 0, .agg #[.int .i64 (ln : Int), .int .i64 ((i : Int) - (bg : Int) + 1)], .int .i64 7]) (by simp [results, Tryz.results58, go_sem, e0, e1]) rfl ?_
              have hue := HE4.out.trans' hu (fun j hj e => by omega)
              rw [HV.out]; exact ⟨rfl, hue.drew⟩
            · have HR5 : Hid (tkF (wdF iF) s m E ln bg (l ++ [⟨qk, qt, qn, ln, (i : Int) - (bg : Int) + 1⟩]) = R) := Lib.hid (by rw [← HR4.out]; rfl)
              clear HR4 hw5
              go_upto_region 28 with fail
              obtain ⟨nt, hnt⟩ : ∃ nt, w5.heap.size = nt := ⟨_, rfl⟩
              try rw [hnt] at HB6
              try rw [hnt]
              generalize w5.alloc (.cells #[.int .i64 (qk : Int), .string qt, .int .i64 qn, .int .i64 0, .int .i64 0] 114) = w6 at *
              have HP4 := Lib.hid (HU6.out.heap HPQ.out (fun h => h))
              have HB4 := Lib.hid (HU6.out.heap HBP.out (fun h => h))
              have HE4 := Lib.hid (HEQ.out.trans HU6.out)
              have HO4 := Lib.hid (own_kept HOQ.out HU6.out (fun _ _ h => h))
              have b0 := cellRow HB4.out 0 (.int .i64 (ln : Int)) rfl
              have b1 := cellRow HB4.out 1 (.int .i64 ((i : Int) - (bg : Int) + 1)) rfl
              have t0 := cellRow HB6.out 0 (.int .i64 (qk : Int)) rfl
              have t1 := cellRow HB6.out 1 (.string qt) rfl
              have t2 := cellRow HB6.out 2 (.int .i64 qn) rfl
              have t3 := cellRow HB6.out 3 (.int .i64 0) rfl
              have t4 := cellRow HB6.out 4 (.int .i64 0) rfl
              have ft := fun j => frozenRow HB6.out j
              go_upto_region 29 with fail
              have hbt := setBlock (setBlock HB6.out 3 (.int .i64 (ln : Int))) 4 (.int .i64 ((i : Int) - (bg : Int) + 1))
              have hut := ((Upd.refl (fun k => k = nt) w6).setCell (p := ⟨nt, 3, none⟩) (.inl rfl) (.int .i64 (ln : Int))).setCell (p := ⟨nt, 4, none⟩) (.inl rfl) (.int .i64 ((i : Int) - (bg : Int) + 1))
              have HBT : Hid (((w6.setCell ⟨nt, 3, none⟩ (.int .i64 (ln : Int))).setCell ⟨nt, 4, none⟩ (.int .i64 ((i : Int) - (bg : Int) + 1))).heap[nt]? = some (.cells #[.int .i64 (qk : Int), .string qt, .int .i64 qn, .int .i64 (ln : Int), .int .i64 ((i : Int) - (bg : Int) + 1)] 114 (0, 0))) := Lib.hid (by simpa using hbt)
              have HUT := Lib.hid hut
              generalize ((w6.setCell ⟨nt, 3, none⟩ (.int .i64 (ln : Int))).setCell ⟨nt, 4, none⟩ (.int .i64 ((i : Int) - (bg : Int) + 1))) = w8 at *
              have hs8 := hut.size
              have HP8 := Lib.hid (HUT.out.heap HP4.out (by omega))
              have HE8 := Lib.hid (HE4.out.trans' HUT.out (fun j hj e => by omega))
              have HO8 := Lib.hid (own_kept HO4.out HUT.out (fun j hj e => by have := (HOQ.out.lt j hj).2; omega))
              have HOA := Lib.hid (HO8.out.alloc (.cells #[.int .i64 (qk : Int), .string qt, .int .i64 qn, .int .i64 (ln : Int), .int .i64 ((i : Int) - (bg : Int) + 1)] 114))
              clear b0 b1 t0 t1 t2 t3 t4 ft hbt hut
              have t0 := cellRow HBT.out 0 (.int .i64 (qk : Int)) rfl
              have t1 := cellRow HBT.out 1 (.string qt) rfl
              have t2 := cellRow HBT.out 2 (.int .i64 qn) rfl
              have t3 := cellRow HBT.out 3 (.int .i64 (ln : Int)) rfl
              have t4 := cellRow HBT.out 4 (.int .i64 ((i : Int) - (bg : Int) + 1)) rfl
              go_wp2_with (at_builtin; refine wpList_append_at _ rfl (.tmp 110) (.tmp 112) 98 rfl (w.heap.size + 1) 114 iT (.agg #[.int .i64 0, .string ⟨#[]⟩, .int .i64 0, .int .i64 0, .int .i64 0]) 5 48 Tryz.underlying98 hi hz0 hz1 hz2 rfl (by decide) _ _ _ rfl HOA.out ⟨w8.heap.size, 0, none⟩ 1 1 [Value.int .i64 (qk : Int), .string qt, .int .i64 qn, .int .i64 (ln : Int), .int .i64 ((i : Int) - (bg : Int) + 1)] rfl rfl ?c1p ?c2p ?c3p ?c4p ?c5p ?_)
              try (case c1p => exact news5 w8 (.int .i64 (qk : Int)) (.string qt) (.int .i64 qn) (.int .i64 (ln : Int)) (.int .i64 ((i : Int) - (bg : Int) + 1)))
              case c2p => first | exact one5 _ _ _ _ _ | exact ⟨rfl, rfl, rfl, rfl, rfl⟩
              case c3p => unfold maxLen; omega
              case c4p => omega
              case c5p => have := alloc_size w8 (.cells #[.int .i64 (qk : Int), .string qt, .int .i64 qn, .int .i64 (ln : Int), .int .i64 ((i : Int) - (bg : Int) + 1)] 114); omega
              intro v' w7 hG
              obtain ⟨xa, xc, hxs⟩ := own_shape hG.own
              subst hxs
              have HP7 := Lib.hid (hG.upd.heap (allocOld HP8.out (.cells #[.int .i64 (qk : Int), .string qt, .int .i64 qn, .int .i64 (ln : Int), .int .i64 ((i : Int) - (bg : Int) + 1)] 114)) (fun e => by have := (HO8.out.lt _ e).1; omega))
              have HE7 : Hid (Ext w w7) := Lib.hid ((HE8.out.alloc (.cells #[.int .i64 (qk : Int), .string qt, .int .i64 qn, .int .i64 (ln : Int), .int .i64 ((i : Int) - (bg : Int) + 1)] 114)).trans' hG.upd (fun j hj e => by have := (HO8.out.lt _ e).1; omega))
              have HO7 : Hid (w7.ownsRow (w.heap.size + 1) 114 5 (.slice xa ((l ++ [(⟨qk, qt, qn, ln, (i : Int) - (bg : Int) + 1⟩ : Tok)]).length) xc) (l ++ [(⟨qk, qt, qn, ln, (i : Int) - (bg : Int) + 1⟩ : Tok)]).length (tkCells (l ++ [⟨qk, qt, qn, ln, (i : Int) - (bg : Int) + 1⟩]))) := Lib.hid (by rw [tkCells_snoc, List.length_append]; exact hG.own)
              have hs7 := hG.upd.size
              have hs7' := alloc_size w8 (.cells #[.int .i64 (qk : Int), .string qt, .int .i64 qn, .int .i64 (ln : Int), .int .i64 ((i : Int) - (bg : Int) + 1)] 114)
              clear hG t0 t1 t2 t3 t4
              go_wp2_with fail
              go_roundg (s.size - E)
              case measure => omega
              case rel => exact ⟨m, E, ln, bg, _, xa, xc, by simp, rfl, rfl, rfl, rfl, by omega, by omega, by omega, by simp; omega, by omega, HR5, HO7, HP7, HE7, Lib.hid (by omega)⟩
          · have y2 : decide ((E : Int) < (s.size : Int)) = false := decide_eq_false (by omega)
            clear hgo
            go_wp2_with fail
            refine HW.out.mono ?_
            rintro e w5 ⟨he, hw5⟩
            have he : e = _ := he
            subst he
            dsimp only
            have HB6 := Lib.hid (alloc0 w5 (.cells #[.int .i64 (qk : Int), .string qt, .int .i64 qn, .int .i64 0, .int .i64 0] 114))
            have HU6 := Lib.hid (hw5.alloc (.cells #[.int .i64 (qk : Int), .string qt, .int .i64 qn, .int .i64 0, .int .i64 0] 114))
            have hs5 := hw5.size
            have hs6 := alloc_size w5 (.cells #[.int .i64 (qk : Int), .string qt, .int .i64 qn, .int .i64 0, .int .i64 0] 114)
            cases qo
            · have HV : Hid (R = .bad (ln : Int) ((i : Int) - (bg : Int) + 1)) := Lib.hid (by rw [← HR4.out]; rfl)
              clear HR4 hw5
              go_upto_region 26 with fail
              generalize w5.alloc (.cells #[.int .i64 (qk : Int), .string qt, .int .i64 qn, .int .i64 0, .int .i64 0] 114) = w6 at *
              have HP4 := Lib.hid (HU6.out.heap HPQ.out (fun h => h))
              have HB4 := Lib.hid (HU6.out.heap HBP.out (fun h => h))
              have HE4 := Lib.hid (HEQ.out.trans HU6.out)
              have b0 := cellRow HB4.out 0 (.int .i64 (ln : Int)) rfl
              have b1 := cellRow HB4.out 1 (.int .i64 ((i : Int) - (bg : Int) + 1)) rfl
              have p0 := cellRow HP4.out 0 (.int .i64 0) rfl
              have p1 := cellRow HP4.out 1 (.int .i64 0) rfl
              have fp := fun j => frozenRow HP4.out j
              go_wp2_with fail
              go_region
              go_wp2_with fail
              have hr2 := st2_heap HP4.out (.int .i64 (ln : Int)) (.int .i64 ((i : Int) - (bg : Int) + 1))
              have hu := st2_upd w6 w.heap.size (.int .i64 (ln : Int)) (.int .i64 ((i : Int) - (bg : Int) + 1))
              have e0 := cellRow hr2 0 _ rfl
              have e1 := cellRow hr2 1 _ rfl
              refine bodyPost_ret (v := .tuple #[.slice none 0 0, .agg #[.int .i64 (ln : Int), .int .i64 ((i : Int) - (bg : Int) + 1)], .int .i64 7]) (by simp [results, Tryz.results58, go_sem, e0, e1]) rfl ?_
              have hue := HE4.out.trans' hu (fun j hj e => by omega)
              rw [HV.out]; exact ⟨rfl, hue.drew⟩
            · have HR5 : Hid (tkF (wdF iF) s m E ln bg (l ++ [⟨qk, qt, qn, ln, (i : Int) - (bg : Int) + 1⟩]) = R) := Lib.hid (by rw [← HR4.out]; rfl)
              clear HR4 hw5
              go_upto_region 28 with fail
              obtain ⟨nt, hnt⟩ : ∃ nt, w5.heap.size = nt := ⟨_, rfl⟩
              try rw [hnt] at HB6
              try rw [hnt]
              generalize w5.alloc (.cells #[.int .i64 (qk : Int), .string qt, .int .i64 qn, .int .i64 0, .int .i64 0] 114) = w6 at *
              have HP4 := Lib.hid (HU6.out.heap HPQ.out (fun h => h))
              have HB4 := Lib.hid (HU6.out.heap HBP.out (fun h => h))
              have HE4 := Lib.hid (HEQ.out.trans HU6.out)
              have HO4 := Lib.hid (own_kept HOQ.out HU6.out (fun _ _ h => h))
              have b0 := cellRow HB4.out 0 (.int .i64 (ln : Int)) rfl
              have b1 := cellRow HB4.out 1 (.int .i64 ((i : Int) - (bg : Int) + 1)) rfl
              have t0 := cellRow HB6.out 0 (.int .i64 (qk : Int)) rfl
              have t1 := cellRow HB6.out 1 (.string qt) rfl
              have t2 := cellRow HB6.out 2 (.int .i64 qn) rfl
              have t3 := cellRow HB6.out 3 (.int .i64 0) rfl
              have t4 := cellRow HB6.out 4 (.int .i64 0) rfl
              have ft := fun j => frozenRow HB6.out j
              go_upto_region 29 with fail
              have hbt := setBlock (setBlock HB6.out 3 (.int .i64 (ln : Int))) 4 (.int .i64 ((i : Int) - (bg : Int) + 1))
              have hut := ((Upd.refl (fun k => k = nt) w6).setCell (p := ⟨nt, 3, none⟩) (.inl rfl) (.int .i64 (ln : Int))).setCell (p := ⟨nt, 4, none⟩) (.inl rfl) (.int .i64 ((i : Int) - (bg : Int) + 1))
              have HBT : Hid (((w6.setCell ⟨nt, 3, none⟩ (.int .i64 (ln : Int))).setCell ⟨nt, 4, none⟩ (.int .i64 ((i : Int) - (bg : Int) + 1))).heap[nt]? = some (.cells #[.int .i64 (qk : Int), .string qt, .int .i64 qn, .int .i64 (ln : Int), .int .i64 ((i : Int) - (bg : Int) + 1)] 114 (0, 0))) := Lib.hid (by simpa using hbt)
              have HUT := Lib.hid hut
              generalize ((w6.setCell ⟨nt, 3, none⟩ (.int .i64 (ln : Int))).setCell ⟨nt, 4, none⟩ (.int .i64 ((i : Int) - (bg : Int) + 1))) = w8 at *
              have hs8 := hut.size
              have HP8 := Lib.hid (HUT.out.heap HP4.out (by omega))
              have HE8 := Lib.hid (HE4.out.trans' HUT.out (fun j hj e => by omega))
              have HO8 := Lib.hid (own_kept HO4.out HUT.out (fun j hj e => by have := (HOQ.out.lt j hj).2; omega))
              have HOA := Lib.hid (HO8.out.alloc (.cells #[.int .i64 (qk : Int), .string qt, .int .i64 qn, .int .i64 (ln : Int), .int .i64 ((i : Int) - (bg : Int) + 1)] 114))
              clear b0 b1 t0 t1 t2 t3 t4 ft hbt hut
              have t0 := cellRow HBT.out 0 (.int .i64 (qk : Int)) rfl
              have t1 := cellRow HBT.out 1 (.string qt) rfl
              have t2 := cellRow HBT.out 2 (.int .i64 qn) rfl
              have t3 := cellRow HBT.out 3 (.int .i64 (ln : Int)) rfl
              have t4 := cellRow HBT.out 4 (.int .i64 ((i : Int) - (bg : Int) + 1)) rfl
              go_wp2_with (at_builtin; refine wpList_append_at _ rfl (.tmp 110) (.tmp 112) 98 rfl (w.heap.size + 1) 114 iT (.agg #[.int .i64 0, .string ⟨#[]⟩, .int .i64 0, .int .i64 0, .int .i64 0]) 5 48 Tryz.underlying98 hi hz0 hz1 hz2 rfl (by decide) _ _ _ rfl HOA.out ⟨w8.heap.size, 0, none⟩ 1 1 [Value.int .i64 (qk : Int), .string qt, .int .i64 qn, .int .i64 (ln : Int), .int .i64 ((i : Int) - (bg : Int) + 1)] rfl rfl ?c1q ?c2q ?c3q ?c4q ?c5q ?_)
              try (case c1q => exact news5 w8 (.int .i64 (qk : Int)) (.string qt) (.int .i64 qn) (.int .i64 (ln : Int)) (.int .i64 ((i : Int) - (bg : Int) + 1)))
              case c2q => first | exact one5 _ _ _ _ _ | exact ⟨rfl, rfl, rfl, rfl, rfl⟩
              case c3q => unfold maxLen; omega
              case c4q => omega
              case c5q => have := alloc_size w8 (.cells #[.int .i64 (qk : Int), .string qt, .int .i64 qn, .int .i64 (ln : Int), .int .i64 ((i : Int) - (bg : Int) + 1)] 114); omega
              intro v' w7 hG
              obtain ⟨xa, xc, hxs⟩ := own_shape hG.own
              subst hxs
              have HP7 := Lib.hid (hG.upd.heap (allocOld HP8.out (.cells #[.int .i64 (qk : Int), .string qt, .int .i64 qn, .int .i64 (ln : Int), .int .i64 ((i : Int) - (bg : Int) + 1)] 114)) (fun e => by have := (HO8.out.lt _ e).1; omega))
              have HE7 : Hid (Ext w w7) := Lib.hid ((HE8.out.alloc (.cells #[.int .i64 (qk : Int), .string qt, .int .i64 qn, .int .i64 (ln : Int), .int .i64 ((i : Int) - (bg : Int) + 1)] 114)).trans' hG.upd (fun j hj e => by have := (HO8.out.lt _ e).1; omega))
              have HO7 : Hid (w7.ownsRow (w.heap.size + 1) 114 5 (.slice xa ((l ++ [(⟨qk, qt, qn, ln, (i : Int) - (bg : Int) + 1⟩ : Tok)]).length) xc) (l ++ [(⟨qk, qt, qn, ln, (i : Int) - (bg : Int) + 1⟩ : Tok)]).length (tkCells (l ++ [⟨qk, qt, qn, ln, (i : Int) - (bg : Int) + 1⟩]))) := Lib.hid (by rw [tkCells_snoc, List.length_append]; exact hG.own)
              have hs7 := hG.upd.size
              have hs7' := alloc_size w8 (.cells #[.int .i64 (qk : Int), .string qt, .int .i64 qn, .int .i64 (ln : Int), .int .i64 ((i : Int) - (bg : Int) + 1)] 114)
              clear hG t0 t1 t2 t3 t4
              go_wp2_with fail
              go_roundg (s.size - E)
              case measure => omega
              case rel => exact ⟨m, E, ln, bg, _, xa, xc, by simp, rfl, rfl, rfl, rfl, by omega, by omega, by omega, by simp; omega, by omega, HR5, HO7, HP7, HE7, Lib.hid (by omega)⟩
    rw [if_neg hK2] at HR3
    have u2 : decide ((2 : Int) ≤ (K : Int)) = false := decide_eq_false (by omega)
    have u2' : decide (2 ≤ K) = false := decide_eq_false hK2
    have HR4 := Lib.hid HR3
    have HSY := Lib.hid (symbol_x (s.extract i s.size) wq)
    have hyl := symF_len (s.extract i s.size)
    have hes : (s.extract i s.size).size = s.size - i := by rw [ByteArray.size_extract]; omega
    obtain ⟨y, hy⟩ : ∃ y, symF (s.extract i s.size) = y := ⟨_, rfl⟩
    rw [hy] at HR4 HSY hyl
    have hyl2 : i + y.length ≤ s.size := by omega
    have hbsz := bs_size y
    have k1' : (i : Int) ≤ (s.size : Int) := by omega
    have k2' : (s.size : Int) ≤ (s.size : Int) := Int.le_refl _
    clear HR2 HR3 hK hy hyl hes HCB
    by_cases hy0 : y = []
    · subst hy0
      have HV : Hid (R = .bad (ln : Int) ((i : Int) - (bg : Int) + 1)) := Lib.hid (by rw [← HR4.out, if_pos rfl])
      go_wp2_with fail
      refine HSY.out.mono ?_
      rintro e w4 ⟨rfl, hw4⟩
      have HP4 := Lib.hid (hw4.heap HPQ.out (fun h => h))
      have HB4 := Lib.hid (hw4.heap HBP.out (fun h => h))
      have HE4 := Lib.hid (HEQ.out.trans hw4)
      rw [bs_nil]
      clear hw4 HSY u1 u2 u2' u35 z2 z2' w1w w2w i0' i1' hbsz
      have b0 := cellRow HB4.out 0 (.int .i64 (ln : Int)) rfl
      have b1 := cellRow HB4.out 1 (.int .i64 ((i : Int) - (bg : Int) + 1)) rfl
      have p0 := cellRow HP4.out 0 (.int .i64 0) rfl
      have p1 := cellRow HP4.out 1 (.int .i64 0) rfl
      have fp := fun j => frozenRow HP4.out j
      go_wp2_with fail
      go_region
      go_wp2_with fail
      have hr2 := st2_heap HP4.out (.int .i64 (ln : Int)) (.int .i64 ((i : Int) - (bg : Int) + 1))
      have hu := st2_upd w4 w.heap.size (.int .i64 (ln : Int)) (.int .i64 ((i : Int) - (bg : Int) + 1))
      have e0 := cellRow hr2 0 _ rfl
      have e1 := cellRow hr2 1 _ rfl
      refine bodyPost_ret (v := .tuple #[.slice none 0 0, .agg #[.int .i64 (ln : Int), .int .i64 ((i : Int) - (bg : Int) + 1)], .int .i64 7]) (by simp [results, Tryz.results58, go_sem, e0, e1]) rfl ?_
      have hue := HE4.out.trans' hu (fun j hj e => by omega)
      rw [HV.out]; exact ⟨rfl, hue.drew⟩
    have HR5 := HR4.out
    rw [if_neg hy0] at HR5
    have HR5 := Lib.hid HR5
    have hyp : 0 < y.length := by
      cases y with
      | nil => exact absurd rfl hy0
      | cons a y => simp
    obtain ⟨z1, z2x, z3, z4⟩ := nonempty_t (bs y) (by omega)
    clear HR4 hy0
    go_wp2_with fail
    refine HSY.out.mono ?_
    rintro e w4 ⟨rfl, hw4⟩
    have HP4 := Lib.hid (hw4.heap HPQ.out (fun h => h))
    have HB4 := Lib.hid (hw4.heap HBP.out (fun h => h))
    have HE4 := Lib.hid (HEQ.out.trans hw4)
    have HO4 := Lib.hid (own_kept HOQ.out hw4 (fun _ _ h => h))
    have hs4 := hw4.size
    have HOA := Lib.hid (HO4.out.alloc (.cells #[.int .i64 4, .string (bs y), .int .i64 0, .int .i64 (ln : Int), .int .i64 ((i : Int) - (bg : Int) + 1)] 114))
    clear hw4 HSY u1 u2 u2' u35 z2 z2' w1w w2w i0' i1'
    have b0 := cellRow HB4.out 0 (.int .i64 (ln : Int)) rfl
    have b1 := cellRow HB4.out 1 (.int .i64 ((i : Int) - (bg : Int) + 1)) rfl
    go_wp2_with (at_builtin; refine wpList_append_at _ rfl (.tmp 40) (.tmp 44) 98 rfl (w.heap.size + 1) 114 iT (.agg #[.int .i64 0, .string ⟨#[]⟩, .int .i64 0, .int .i64 0, .int .i64 0]) 5 48 Tryz.underlying98 hi hz0 hz1 hz2 rfl (by decide) _ _ _ rfl HOA.out ⟨w4.heap.size, 0, none⟩ 1 1 [Value.int .i64 4, .string (bs y), .int .i64 0, .int .i64 (ln : Int), .int .i64 ((i : Int) - (bg : Int) + 1)] rfl rfl ?c1y ?c2y ?c3y ?c4y ?c5y ?_)
    try (case c1y => exact news5 w4 (.int .i64 4) (.string (bs y)) (.int .i64 0) (.int .i64 (ln : Int)) (.int .i64 ((i : Int) - (bg : Int) + 1)))
    case c2y => first | exact one5 _ _ _ _ _ | exact ⟨rfl, rfl, rfl, rfl, rfl⟩
    case c3y => unfold maxLen; omega
    case c4y => omega
    case c5y => have := alloc_size w4 (.cells #[.int .i64 4, .string (bs y), .int .i64 0, .int .i64 (ln : Int), .int .i64 ((i : Int) - (bg : Int) + 1)] 114); omega
    intro v' w7 hG
    obtain ⟨xa, xc, hxs⟩ := own_shape hG.own
    subst hxs
    have HP7 := Lib.hid (hG.upd.heap (allocOld HP4.out (.cells #[.int .i64 4, .string (bs y), .int .i64 0, .int .i64 (ln : Int), .int .i64 ((i : Int) - (bg : Int) + 1)] 114)) (fun e => by have := (HO4.out.lt _ e).1; omega))
    have HE7 : Hid (Ext w w7) := Lib.hid ((HE4.out.alloc (.cells #[.int .i64 4, .string (bs y), .int .i64 0, .int .i64 (ln : Int), .int .i64 ((i : Int) - (bg : Int) + 1)] 114)).trans' hG.upd (fun j hj e => by have := (HO4.out.lt _ e).1; omega))
    have HO7 : Hid (w7.ownsRow (w.heap.size + 1) 114 5 (.slice xa ((l ++ [(⟨4, bs y, 0, ln, (i : Int) - (bg : Int) + 1⟩ : Tok)]).length) xc) (l ++ [(⟨4, bs y, 0, ln, (i : Int) - (bg : Int) + 1⟩ : Tok)]).length (tkCells (l ++ [⟨4, bs y, 0, ln, (i : Int) - (bg : Int) + 1⟩]))) := Lib.hid (by rw [tkCells_snoc, List.length_append]; exact hG.own)
    have hs7 := hG.upd.size
    have hs7' := alloc_size w4 (.cells #[.int .i64 4, .string (bs y), .int .i64 0, .int .i64 (ln : Int), .int .i64 ((i : Int) - (bg : Int) + 1)] 114)
    clear hG b0 b1 z1 z2x z3 z4
    go_wp2_with fail
    go_roundg (s.size - (i + y.length))
    case measure => omega
    case rel => exact ⟨m, i + y.length, ln, bg, _, xa, xc, by simp, rfl, rfl, by go_num, rfl, by omega, by omega, by omega, by simp; omega, by omega, HR5, HO7, HP7, HE7, Lib.hid (by omega)⟩

end Go.Proofs.YtjjaknmnhhfjeaaGreatDoor

/- The reader: is, take, name. -/
namespace Go.Proofs.YtjjaknmnhhfjeaaGreatDoor
open Go.RowKit Go.Hw Go
set_option linter.unusedVariables false
set_option linter.unusedSimpArgs false

open Tm
structure Rd (rb : Nat) (la : Option Addr) (lc : Nat) (S : Nat → Prop) (l : List Tok) (W : World) (i : Nat) (b : Bool) : Prop where
  box : W.heap[rb]? = some (.cells #[.slice la l.length lc, .int .i64 (i : Int), .bool b] 103 (0, 0))
  tk : TkR S W (.slice la l.length lc) l
  apart : ¬ S rb
section
variable {rb : Nat} {la : Option Addr} {lc : Nat} {S : Nat → Prop} {l : List Tok} {W W' : World} {i i' : Nat} {b b' : Bool}
theorem Rd.ext (h : Rd rb la lc S l W i b) (hu : Ext W W') : Rd rb la lc S l W' i b := ⟨hu.heap h.box (fun h => h), h.tk.ext hu, h.apart⟩
theorem Rd.to (h : Rd rb la lc S l W i b) (hu : Upd (fun k => k = rb) W W') (hb : W'.heap[rb]? = some (.cells #[.slice la l.length lc, .int .i64 (i' : Int), .bool b'] 103 (0, 0))) : Rd rb la lc S l W' i' b' := ⟨hb, h.tk.kept hu (fun k hk e => h.apart (by rw [← show k = rb from e]; exact hk)), h.apart⟩
end
def annTk (n0 : Nat) : Ann Nat := ⟨fun x => .pointer (some ⟨x, 0, none⟩), fun x W => n0 ≤ x ∧ W.heap[x]? = some (.cells #[.int .i64 0, .string ⟨#[]⟩, .int .i64 0, .int .i64 0, .int .i64 0] 114 (0, 0)), fun x W W' h hE => ⟨h.1, hE.heap h.2 (fun h => h)⟩⟩
set_option maxRecDepth 100000 in
set_option maxHeartbeats 4000000 in
theorem is_x (rb : Nat) (la : Option Addr) (lc : Nat) (S : Nat → Prop) (l : List Tok) (i : Nat) (b : Bool) (s : By) (w : World) (hR : Rd rb la lc S l w i b) (hi : i < l.length) (hl : l.length ≤ 1000000) :
    Calls Tryz.prog 59 #[.pointer (some ⟨rb, 0, none⟩), .string s] w fun e w' => e = .returned (.bool (!b && isB (tk l i) s)) ∧ Ext w w' := by
  obtain ⟨gg, off, hga, hSg, hat⟩ := (TkR.at_ hR.tk (Nat.lt_of_le_of_lt (Nat.zero_le _) hi)).2
  subst hga
  obtain ⟨q0, q1, q2, q3, q4⟩ := hat i hi
  have HR := Lib.hid hR
  obtain ⟨⟨kd, tx, tn, tl, tc⟩, ht⟩ : ∃ t, tk l i = t := ⟨_, rfl⟩
  rw [ht] at q0 q1 q2 q3 q4
  try rw [ht]
  have i0 : (0 : Int) ≤ (i : Int) := by omega
  have i1 : (i : Int) < (l.length : Int) := by omega
  dsimp only at q0 q1 q2 q3 q4
  clear hat hR
  have HV : Hid ((!b && isB ⟨kd, tx, tn, tl, tc⟩ s) = (!b && ((decide (kd = 4) || decide (kd = 3)) && decide (tx = s)))) := Lib.hid rfl
  obtain ⟨V, hV⟩ : ∃ V, (!b && isB ⟨kd, tx, tn, tl, tc⟩ s) = V := ⟨_, rfl⟩
  rw [hV] at HV ⊢
  clear hV ht
  go_enter Tryz.func59, Tryz.ntmps59
  have HBR := Lib.hid HR.out.box
  obtain ⟨w1, hw1⟩ : ∃ w1, w1 = w := ⟨_, rfl⟩
  have HW1 : Hid (Ext w w1) := Lib.hid (by rw [hw1]; exact Upd.refl _ _)
  rw [← hw1] at HBR q0 q1 q2 q3 q4 ⊢
  clear hw1 HR
  have X0 := fun x : XW w1 => cellRow (x.ext.heap HBR.out (fun h => h)) 0 (.slice (some ⟨gg, off, none⟩) l.length lc) rfl
  have X1 := fun x : XW w1 => cellRow (x.ext.heap HBR.out (fun h => h)) 1 (.int .i64 (i : Int)) rfl
  have X2 := fun x : XW w1 => x.ext.cell q0 (fun h => h)
  have X3 := fun x : XW w1 => x.ext.cell q1 (fun h => h)
  have X4 := fun x : XW w1 => x.ext.cell q2 (fun h => h)
  have X5 := fun x : XW w1 => x.ext.cell q3 (fun h => h)
  have X6 := fun x : XW w1 => x.ext.cell q4 (fun h => h)
  go_wp2_with fail
  refine wp_region_par (α := Nat) 11 [(11, 2)] [[], [0], [0, 1], [0, 1, 2], [], [4], [4, 5], [4, 5, 6], [0, 1, 2, 3, 4, 5, 6, 7], [0, 1, 2, 3, 4, 5, 6, 7, 8], [], [0, 1, 2, 3, 4, 5, 6, 7, 8, 9, 10]]
    [none, none, none, none, none, none, none, none, none, none, some (annTk w1.heap.size)] [false, false, false, false, false, false, false, false, false, false, true] (by kernel_rfl) (by kernel_rfl) rfl (fun _ _ d _ _ h => by cases d <;> exact h) ?_
  simp only [List.take_succ_cons, List.take_zero, pickO, List.getElem?_cons_zero, List.getElem?_cons_succ]
  iterate 10 (refine can_pure0 rfl (fun K hK => ?_); go_simp; refine hK _ ?_; clear hK K)
  refine can_mem _ rfl (by go_simp) (fun W hW hG K hK => ?_) (fun K x hK => ?_)
  · go_simp
    exact hK W.heap.size _ ((Upd.refl (fun _ => False) W).alloc _) ⟨hW.size, alloc0 _ _⟩
  refine hK _ ?_; clear hK K
  dsimp only [annTk]
  refine can_end (fun W hW hG => ?_)
  obtain ⟨hxs, hxb⟩ := hG _ (List.mem_singleton.2 rfl)
  have HBX := Lib.hid hxb
  have HWW := Lib.hid hW
  have z0 := cellRow hxb 0 (.int .i64 0) rfl
  have z1 := cellRow hxb 1 (.string ⟨#[]⟩) rfl
  have z2 := cellRow hxb 2 (.int .i64 0) rfl
  have z3 := cellRow hxb 3 (.int .i64 0) rfl
  have z4 := cellRow hxb 4 (.int .i64 0) rfl
  have fz := fun j => frozenRow hxb j
  clear hG hxb hW X0 X1 X2 X3 X4 X5 X6
  refine mix_two ?_
  intro K hK
  go_simp
  refine hK _ _ ?_
  clear hK K
  have hrx := st5_heap HBX.out (.int .i64 (kd : Int)) (.string tx) (.int .i64 tn) (.int .i64 tl) (.int .i64 tc)
  have hux := st5_upd W x (.int .i64 (kd : Int)) (.string tx) (.int .i64 tn) (.int .i64 tl) (.int .i64 tc)
  have HRX := Lib.hid hrx
  have HUX := Lib.hid hux
  clear hrx hux z0 z1 z2 z3 z4 fz
  generalize (((((W.setCell ⟨x, 0, none⟩ (.int .i64 (kd : Int))).setCell ⟨x, 1, none⟩ (.string tx)).setCell ⟨x, 2, none⟩ (.int .i64 tn)).setCell ⟨x, 3, none⟩ (.int .i64 tl)).setCell ⟨x, 4, none⟩ (.int .i64 tc)) = w5 at *
  have HE5 : Hid (Ext w1 w5) := Lib.hid (HWW.out.trans' HUX.out (fun j hj e => by omega))
  have k0 := cellRow HRX.out 0 (.int .i64 (kd : Int)) rfl
  have k1 := cellRow HRX.out 1 (.string tx) rfl
  have k2 := cellRow HRX.out 2 (.int .i64 tn) rfl
  have k3 := cellRow HRX.out 3 (.int .i64 tl) rfl
  have k4 := cellRow HRX.out 4 (.int .i64 tc) rfl
  simp only [wpMix]
  have HB5 := Lib.hid (HE5.out.heap HBR.out (fun h => h))
  have HF := HE5
  have c0 := cellRow HB5.out 0 (.slice (some ⟨gg, off, none⟩) l.length lc) rfl
  have c1 := cellRow HB5.out 1 (.int .i64 (i : Int)) rfl
  have c2 := cellRow HB5.out 2 (.bool b) rfl
  clear HBX HWW HUX HE5 q0 q1 q2 q3 q4
  cases b
  case true =>
    have HV2 : Hid (V = false) := Lib.hid (by rw [HV.out]; rfl)
    go_wp2_with fail
    go_ret
    rw [HV2.out]
    exact ⟨rfl, HF.out⟩
  have e9 := str_dec tx s
  by_cases h4 : kd = 4
  · subst h4
    have HV2 : Hid (V = decide (tx = s)) := Lib.hid (by rw [HV.out]; simp)
    obtain ⟨b2, hb2⟩ : ∃ b, decide (tx = s) = b := ⟨_, rfl⟩
    rw [hb2] at HV2 e9
    clear HV hb2
    go_wp2_with fail
    go_ret
    rw [HV2.out]
    exact ⟨rfl, HF.out⟩
  by_cases h3 : kd = 3
  · subst h3
    have HV2 : Hid (V = decide (tx = s)) := Lib.hid (by rw [HV.out]; simp)
    obtain ⟨b2, hb2⟩ : ∃ b, decide (tx = s) = b := ⟨_, rfl⟩
    rw [hb2] at HV2 e9
    clear HV hb2
    go_wp2_with fail
    go_ret
    rw [HV2.out]
    exact ⟨rfl, HF.out⟩
  have HV2 : Hid (V = false) := Lib.hid (by rw [HV.out, decide_eq_false h4, decide_eq_false h3]; rfl)
  have t4 : ((kd : Int) == 4) = false := beq_eq_false_iff_ne.2 (by omega)
  have t3 : ((kd : Int) == 3) = false := beq_eq_false_iff_ne.2 (by omega)
  go_wp2_with fail
  go_ret
  rw [HV2.out]
  exact ⟨rfl, HF.out⟩
def takeF (l : List Tok) (i : Nat) (b : Bool) (s : By) : Nat × Bool := if (!b && isB (tk l i) s) = true then (i + 1, false) else (i, true)
def RdP (rb : Nat) (la : Option Addr) (lc : Nat) (S : Nat → Prop) (l : List Tok) (w w' : World) (p : Nat × Bool) : Prop := Upd (fun k => k = rb) w w' ∧ Rd rb la lc S l w' p.1 p.2
set_option maxRecDepth 100000 in
set_option maxHeartbeats 2000000 in
theorem take_x (rb : Nat) (la : Option Addr) (lc : Nat) (S : Nat → Prop) (l : List Tok) (i : Nat) (b : Bool) (s : By) (w : World) (hR : Rd rb la lc S l w i b) (hi : i < l.length) (hl : l.length ≤ 1000000) :
    Calls Tryz.prog 63 #[.pointer (some ⟨rb, 0, none⟩), .string s] w fun e w' => e = .returned (.tuple #[]) ∧ RdP rb la lc S l w w' (takeF l i b s) := by
  have HR := Lib.hid hR
  have HI := Lib.hid (is_x rb la lc S l i b s w hR hi hl)
  have HV : Hid (takeF l i b s = if (!b && isB (tk l i) s) = true then (i + 1, false) else (i, true)) := Lib.hid rfl
  have HVB : Hid ((!b && isB (tk l i) s) = true → b = false) := Lib.hid (fun h => by cases b; rfl; simp at h)
  obtain ⟨V, hV⟩ : ∃ V, takeF l i b s = V := ⟨_, rfl⟩
  rw [hV] at HV ⊢
  obtain ⟨c, hc⟩ : ∃ c, (!b && isB (tk l i) s) = c := ⟨_, rfl⟩
  rw [hc] at HI HV HVB
  clear hV hc hR
  go_enter Tryz.func63, Tryz.ntmps63
  go_wp2_with fail
  refine HI.out.mono ?_
  rintro e w4 ⟨rfl, hw4⟩
  have HR4 := Lib.hid (HR.out.ext hw4)
  have H4 := Lib.hid hw4
  have HB4 := Lib.hid HR4.out.box
  clear hw4 HI
  have c0 := cellRow HB4.out 0 (.slice la l.length lc) rfl
  have c1 := cellRow HB4.out 1 (.int .i64 (i : Int)) rfl
  have c2 := cellRow HB4.out 2 (.bool b) rfl
  have fr := fun j => frozenRow HB4.out j
  cases c
  · have HV2 : Hid (V = (i, true)) := Lib.hid (by rw [HV.out]; rfl)
    have hb := setBlock HB4.out 2 (.bool true)
    have hu := (Upd.refl (fun k => k = rb) w4).setCell (p := ⟨rb, 2, none⟩) (.inl rfl) (.bool true)
    have HB := Lib.hid hb
    have HU := Lib.hid hu
    clear hb hu
    go_wp2_with fail
    refine bodyPost_ret (v := .tuple #[]) (by simp [results, Tryz.results63, go_sem]) rfl ?_
    rw [HV2.out]
    exact ⟨rfl, (H4.out.mono (fun _ _ h => h.elim)).trans HU.out, HR4.out.to HU.out (by simpa using HB.out)⟩
  · have HV2 : Hid (V = (i + 1, false)) := Lib.hid (by rw [HV.out]; rfl)
    have hbf := HVB.out (by simp)
    subst hbf
    have hw1 : IntKind.i64.wrap ((i : Int) + 1) = (i : Int) + 1 := IntWalk.i64_in _ (by omega)
    have hb := setBlock HB4.out 1 (.int .i64 ((i : Int) + 1))
    have hu := (Upd.refl (fun k => k = rb) w4).setCell (p := ⟨rb, 1, none⟩) (.inl rfl) (.int .i64 ((i : Int) + 1))
    have HB := Lib.hid hb
    have HU := Lib.hid hu
    clear hb hu
    go_wp2_with fail
    go_end0
    rw [HV2.out]
    exact ⟨rfl, (H4.out.mono (fun _ _ h => h.elim)).trans HU.out, HR4.out.to HU.out (by simpa using HB.out)⟩
def nameF (l : List Tok) (i : Nat) (b : Bool) : By × Nat × Bool := if b = false ∧ (tk l i).kind = 1 then ((tk l i).text, i + 1, false) else (nul, i, true)
set_option maxRecDepth 100000 in
set_option maxHeartbeats 2000000 in
theorem name_x (rb : Nat) (la : Option Addr) (lc : Nat) (S : Nat → Prop) (l : List Tok) (i : Nat) (b : Bool) (w : World) (hR : Rd rb la lc S l w i b) (hi : i < l.length) (hl : l.length ≤ 1000000) :
    Calls Tryz.prog 60 #[.pointer (some ⟨rb, 0, none⟩)] w fun e w' => e = .returned (.string (nameF l i b).1) ∧ RdP rb la lc S l w w' (nameF l i b).2 := by
  obtain ⟨gg, off, hga, hSg, hat⟩ := (TkR.at_ hR.tk (Nat.lt_of_le_of_lt (Nat.zero_le _) hi)).2
  subst hga
  obtain ⟨q0, q1, q2, q3, q4⟩ := hat i hi
  have HR := Lib.hid hR
  obtain ⟨⟨kd, tx, tn, tl, tc⟩, ht⟩ : ∃ t, tk l i = t := ⟨_, rfl⟩
  rw [ht] at q0 q1 q2 q3 q4
  try rw [ht]
  have i0 : (0 : Int) ≤ (i : Int) := by omega
  have i1 : (i : Int) < (l.length : Int) := by omega
  dsimp only at q0 q1 q2 q3 q4
  clear hat hR
  have HV : Hid (nameF l i b = if b = false ∧ (tk l i).kind = 1 then ((tk l i).text, i + 1, false) else (nul, i, true)) := Lib.hid rfl
  obtain ⟨V, hV⟩ : ∃ V, nameF l i b = V := ⟨_, rfl⟩
  rw [hV] at HV ⊢
  rw [ht] at HV
  dsimp only at HV
  clear hV ht
  have HB := Lib.hid HR.out.box
  go_enter Tryz.func60, Tryz.ntmps60
  have c0 := cellRow HB.out 0 (.slice (some ⟨gg, off, none⟩) l.length lc) rfl
  have c1 := cellRow HB.out 1 (.int .i64 (i : Int)) rfl
  have c2 := cellRow HB.out 2 (.bool b) rfl
  have fr := fun j => frozenRow HB.out j
  have c0 := c0
  by_cases hok : b = false ∧ kd = 1
  · obtain ⟨rfl, rfl⟩ := hok
    have HV2 : Hid (V = (tx, i + 1, false)) := Lib.hid (by rw [HV.out, if_pos ⟨rfl, rfl⟩])
    have hw1 : IntKind.i64.wrap ((i : Int) + 1) = (i : Int) + 1 := IntWalk.i64_in _ (by omega)
    have hw2 : IntKind.i64.wrap ((i : Int) + 1 - 1) = (i : Int) := by rw [IntWalk.i64_in _ (by omega)]; omega
    go_upto_region 1 with fail
    go_quiet (fail)
    have HD := Lib.hid ((Upd.refl (fun _ => False) w).drewN' nq)
    have HRD := Lib.hid (HR.out.ext HD.out)
    have HBD := Lib.hid HRD.out.box
    have q1 := HD.out.cell q1 (fun h => h)
    clear c0 c1 c2 fr q0 q2 q3 q4
    generalize w.drewN nq = wd at *
    have c0 := cellRow HBD.out 0 (.slice (some ⟨gg, off, none⟩) l.length lc) rfl
    have c1 := cellRow HBD.out 1 (.int .i64 (i : Int)) rfl
    have c2 := cellRow HBD.out 2 (.bool false) rfl
    have fr := fun j => frozenRow HBD.out j
    go_upto_region 5 with fail
    have hb := setBlock HBD.out 1 (.int .i64 ((i : Int) + 1))
    have hu := (Upd.refl (fun k => k = rb) wd).setCell (p := ⟨rb, 1, none⟩) (.inl rfl) (.int .i64 ((i : Int) + 1))
    have hne : gg ≠ rb := fun e => HRD.out.apart (by rw [← e]; exact hSg)
    have q1 := hu.cell q1 hne
    have HB8 : Hid ((wd.setCell ⟨rb, 1, none⟩ (.int .i64 ((i : Int) + 1))).heap[rb]? = some (.cells #[.slice (some ⟨gg, off, none⟩) l.length lc, .int .i64 ((i : Int) + 1), .bool false] 103 (0, 0))) := Lib.hid (by simpa using hb)
    have HU8 := Lib.hid hu
    generalize wd.setCell ⟨rb, 1, none⟩ (.int .i64 ((i : Int) + 1)) = w8 at *
    clear hb hu c0 c1 c2 fr
    have c0 := cellRow HB8.out 0 (.slice (some ⟨gg, off, none⟩) l.length lc) rfl
    have c1 := cellRow HB8.out 1 (.int .i64 ((i : Int) + 1)) rfl
    have c2 := cellRow HB8.out 2 (.bool false) rfl
    go_quiet (fail)
    have HU9 := Lib.hid (((HD.out.mono (fun _ _ h => h.elim)).trans HU8.out).drewN' nq)
    have HB9 := Lib.hid (((Upd.refl (fun _ => False) w8).drewN' nq).heap HB8.out (fun h => h))
    go_wp2_with fail
    go_ret
    rw [HV2.out]
    exact ⟨rfl, HU9.out, HR.out.to HU9.out HB9.out⟩
  · have HV2 : Hid (V = (nul, i, true)) := Lib.hid (by rw [HV.out, if_neg hok])
    have t1 : b = false → ((kd : Int) == 1) = false ∧ ((kd : Int) != 1) = true := fun hb => ⟨beq_eq_false_iff_ne.2 (fun e => hok ⟨hb, by omega⟩), bne_iff_ne.2 (fun e => hok ⟨hb, by omega⟩)⟩
    clear hok HV
    go_upto_region 1 with fail
    cases b
    · obtain ⟨t1, t2⟩ := t1 rfl
      go_quiet (fail)
      have HD := Lib.hid ((Upd.refl (fun _ => False) w).drewN' nq)
      have HRD := Lib.hid (HR.out.ext HD.out)
      have HBD := Lib.hid HRD.out.box
      clear c0 c1 c2 fr q0 q1 q2 q3 q4
      generalize w.drewN nq = wd at *
      have c0 := cellRow HBD.out 0 (.slice (some ⟨gg, off, none⟩) l.length lc) rfl
      have c1 := cellRow HBD.out 1 (.int .i64 (i : Int)) rfl
      have c2 := cellRow HBD.out 2 (.bool false) rfl
      have fr := fun j => frozenRow HBD.out j
      have hb := setBlock HBD.out 2 (.bool true)
      have hu := (Upd.refl (fun k => k = rb) wd).setCell (p := ⟨rb, 2, none⟩) (.inl rfl) (.bool true)
      have HB := Lib.hid hb
      have HU := Lib.hid hu
      clear hb hu
      go_wp2_with fail
      go_ret
      rw [HV2.out]
      exact ⟨rfl, (HD.out.mono (fun _ _ h => h.elim)).trans HU.out, HRD.out.to HU.out (by simpa using HB.out)⟩
    · go_quiet (fail)
      have HD := Lib.hid ((Upd.refl (fun _ => False) w).drewN' nq)
      have HRD := Lib.hid (HR.out.ext HD.out)
      have HBD := Lib.hid HRD.out.box
      clear c0 c1 c2 fr q0 q1 q2 q3 q4
      generalize w.drewN nq = wd at *
      have c0 := cellRow HBD.out 0 (.slice (some ⟨gg, off, none⟩) l.length lc) rfl
      have c1 := cellRow HBD.out 1 (.int .i64 (i : Int)) rfl
      have c2 := cellRow HBD.out 2 (.bool true) rfl
      have fr := fun j => frozenRow HBD.out j
      have hb := setBlock HBD.out 2 (.bool true)
      have hu := (Upd.refl (fun k => k = rb) wd).setCell (p := ⟨rb, 2, none⟩) (.inl rfl) (.bool true)
      have HB := Lib.hid hb
      have HU := Lib.hid hu
      clear hb hu
      go_wp2_with fail
      go_ret
      rw [HV2.out]
      exact ⟨rfl, (HD.out.mono (fun _ _ h => h.elim)).trans HU.out, HRD.out.to HU.out (by simpa using HB.out)⟩

end Go.Proofs.YtjjaknmnhhfjeaaGreatDoor

/- A list in parentheses. -/
namespace Go.Proofs.YtjjaknmnhhfjeaaGreatDoor
open Go.RowKit Go.Hw Go
set_option linter.unusedVariables false
set_option linter.unusedSimpArgs false

open Tm
def ElP {α : Type} (K : List α → Nat → Bool → World → Prop) (xs : List α) (r : PR α) (W : World) : Prop := match r with
  | .ok x j => K (xs ++ [x]) j false W
  | .bad j => ∃ ys, K ys j true W
def LsP {α : Type} (K : List α → Nat → Bool → World → Prop) (r : PR (List α)) (W : World) : Prop := match r with
  | .ok xs j => K xs j false W
  | .bad j => ∃ ys, K ys j true W
set_option maxRecDepth 100000 in
set_option maxHeartbeats 4000000 in
theorem list111_x {α : Type} (el : Nat → PR α) (K : List α → Nat → Bool → World → Prop) (K0 : List α → Nat → World → Prop) (rb : Nat) (la : Option Addr) (lc : Nat) (S : Nat → Prop) (l : List Tok) (tb rx : Nat) (hE : Ended l) (hf : Fwd l el) (hl : l.length ≤ 1000000)
    (hK1 : ∀ xs i b W, K xs i b W → Rd rb la lc S l W i b)
    (hK2 : ∀ xs i b W W' i' b', K xs i b W → i ≤ i' → (b = true → b' = true) → Upd (fun k => k = rb) W W' → Rd rb la lc S l W' i' b' → K xs i' b' W')
    (hK0 : ∀ xs i W W', K xs i false W → Upd (fun k => k = rb) W W' → Rd rb la lc S l W' i true → K0 xs i W')
    (h1 : ∀ xs i W, K xs i false W → i < l.length → Calls Tryz.prog 111 #[.pointer (some ⟨tb, 0, none⟩), .pointer (some ⟨rx, 0, none⟩)] W fun e W' => e = .returned (.tuple #[]) ∧ ElP K xs (el i) W')
    (h2 : ∀ xs i W, K0 xs i W → i < l.length → Calls Tryz.prog 111 #[.pointer (some ⟨tb, 0, none⟩), .pointer (some ⟨rx, 0, none⟩)] W fun e W' => e = .returned (.tuple #[]) ∧ ∃ ys, K ys i true W')
    (i : Nat) (b : Bool) (w : World) (h0 : K [] i b w) (hi : i < l.length) :
    Calls Tryz.prog 61 #[.pointer (some ⟨rb, 0, none⟩), .func (.func 111) #[] #[.pointer (some ⟨tb, 0, none⟩), .pointer (some ⟨rx, 0, none⟩)]] w fun e w' => e = .returned (.tuple #[]) ∧ LsP K (if b = true then .bad i else pP el l i) w' := by
  have hK1 := Lib.hid hK1
  have hK2 := Lib.hid hK2
  have hK0 := Lib.hid hK0
  have h1 := Lib.hid h1
  have h2 := Lib.hid h2
  have hf := Lib.hid hf
  have hE := Lib.hid hE
  have H0 := Lib.hid h0
  obtain ⟨R, hR⟩ : ∃ R, (if b = true then .bad i else pP el l i) = R := ⟨_, rfl⟩
  rw [hR]
  have HR := Lib.hid hR
  have HTK := Lib.hid (take_x rb la lc S l i b sLp w (hK1.out _ _ _ _ h0) hi hl)
  have hs1 : (⟨#[40]⟩ : By) = sLp := rfl
  have heg : ∀ args W, (callFunc 111 args).run Tryz.prog W = .ok (.enter 111 args) W := enters_of Tryz.func111 (by kernel_rfl) rfl
  obtain ⟨⟨i1, b1⟩, htk⟩ : ∃ p, takeF l i b sLp = p := ⟨_, rfl⟩
  rw [htk] at HTK
  have HII : Hid (i ≤ i1 ∧ (b = true → b1 = true)) := Lib.hid (by
    unfold takeF at htk
    split at htk
    · rename_i hc
      injection htk with e1 e2
      refine ⟨by omega, fun hb => ?_⟩
      rw [hb] at hc
      simp at hc
    · injection htk with e1 e2
      exact ⟨by omega, fun _ => e2.symm⟩)
  have HST : Hid (i1 < l.length ∧ R = (if b1 = true then .bad i1 else pL el l (l.length - i) i1 true []) ∧ l.length - i1 ≤ l.length - i) := Lib.hid (by
    rw [← hR]
    unfold takeF at htk
    unfold pP
    cases b
    · rw [Bool.not_false, Bool.true_and] at htk
      rw [if_neg (by decide)]
      by_cases hc : isB (tk l i) sLp = true
      · rw [if_pos hc] at htk ⊢
        injection htk with e1 e2
        subst e1; subst e2
        exact ⟨hE.out.isB hi hc, rfl, by omega⟩
      · rw [if_neg hc] at htk ⊢
        injection htk with e1 e2
        subst e1; subst e2
        exact ⟨hi, rfl, Nat.le_refl _⟩
    · rw [if_neg (by simp)] at htk
      injection htk with e1 e2
      subst e1; subst e2
      exact ⟨hi, rfl, Nat.le_refl _⟩)
  clear h0 hR htk HR
  go_enter Tryz.func61, Tryz.ntmps61
  rw [hs1]
  go_wp2_with fail
  refine HTK.out.mono ?_
  rintro e w4 ⟨rfl, hu4, hr4⟩
  have HK4 := Lib.hid (hK2.out _ _ _ _ _ _ _ H0.out HII.out.1 HII.out.2 hu4 hr4)
  obtain ⟨hi1, hR1, hm1⟩ := HST.out
  have HR1 := Lib.hid hR1
  clear hu4 hr4 HTK H0 HST hR1 hs1
  go_wp2_with fail
  go_loopg [4] (if b1 = true then 0 else l.length - i1) (fun gk x4 wr => ∃ (xs : List α) (i : Nat) (b : Bool) (m : Nat) (first : Bool), x4 = .bool first ∧ gk = (if b = true then 0 else l.length - i) ∧ i < l.length ∧ l.length - i ≤ m ∧ Hid (K xs i b wr) ∧ Hid (R = (if b = true then .bad i else pL el l m i first xs)))
  case atStart => exact ⟨[], i1, b1, l.length - i, true, rfl, rfl, hi1, hm1, HK4, HR1⟩
  case round =>
    clear HK4 HR1 hi1 hm1 hi
    obtain ⟨xs, i, b, m, first, rfl, rfl, hi, hm, HK, HR⟩ := hrel
    have HRd := Lib.hid (hK1.out _ _ _ _ HK.out)
    have HBx := Lib.hid HRd.out.box
    have c0 := cellRow HBx.out 0 (.slice la l.length lc) rfl
    have c1 := cellRow HBx.out 1 (.int .i64 (i : Int)) rfl
    have c2 := cellRow HBx.out 2 (.bool b) rfl
    have hs2 : (⟨#[41]⟩ : By) = sRp := rfl
    have hs3 : (⟨#[44]⟩ : By) = sCm := rfl
    cases b
    case true =>
      have HR2 : Hid (R = .bad i) := Lib.hid (by rw [HR.out, if_pos rfl])
      have HTK := Lib.hid (take_x rb la lc S l i true sRp wr HRd.out hi hl)
      have hte : takeF l i true sRp = (i, true) := by unfold takeF; rw [if_neg (by simp)]
      rw [hte] at HTK
      clear hte HR
      go_wp2_with fail
      try rw [hs2]
      refine HTK.out.mono ?_
      rintro e w5 ⟨rfl, hu5, hr5⟩
      have HK5 := Lib.hid (hK2.out _ _ _ _ _ _ _ HK.out (Nat.le_refl _) (fun h => h) hu5 hr5)
      clear hu5 hr5 HTK
      go_wp2_with fail
      go_end0
      rw [HR2.out]
      exact ⟨rfl, xs, HK5.out⟩
    obtain ⟨m, rfl⟩ : ∃ m', m = m' + 1 := ⟨m - 1, by omega⟩
    have hr := HR.out
    rw [if_neg (by decide), pL] at hr
    have HIS := Lib.hid (is_x rb la lc S l i false sRp wr HRd.out hi hl)
    rw [Bool.not_false, Bool.true_and] at HIS
    obtain ⟨c, hc⟩ : ∃ c, isB (tk l i) sRp = c := ⟨_, rfl⟩
    rw [hc] at HIS hr
    have HC := Lib.hid hc
    have HR1 := Lib.hid hr
    clear hc hr HR
    go_wp2_with fail
    try rw [hs2]
    refine HIS.out.mono ?_
    rintro e w5 ⟨rfl, hw5⟩
    have hr5 := HRd.out.ext hw5
    have HK5 := Lib.hid (hK2.out _ _ _ _ _ _ _ HK.out (Nat.le_refl _) (fun h => h) (hw5.mono (fun _ _ h => h.elim)) hr5)
    have HRd5 := Lib.hid hr5
    clear hw5 hr5 HIS HBx c0 c1 c2 HRd HK
    cases c
    case true =>
      have HR2 : Hid (R = .ok xs (i + 1)) := Lib.hid (by rw [HR1.out, if_pos rfl])
      have HTK := Lib.hid (take_x rb la lc S l i false sRp w5 HRd5.out hi hl)
      have hte : takeF l i false sRp = (i + 1, false) := by unfold takeF; rw [HC.out, if_pos (by simp)]
      rw [hte] at HTK
      clear hte HR1
      go_wp2_with fail
      try rw [hs2]
      refine HTK.out.mono ?_
      rintro e w6 ⟨rfl, hu5, hr5⟩
      have HK6 := Lib.hid (hK2.out _ _ _ _ _ _ _ HK5.out (Nat.le_succ _) (fun h => h) hu5 hr5)
      clear hu5 hr5 HTK
      go_wp2_with fail
      go_end0
      rw [HR2.out]
      exact ⟨rfl, HK6.out⟩
    have hr := HR1.out
    rw [if_neg (by decide)] at hr
    cases first
    case true =>
      have HR2 : Hid (R = match el i with | .bad j => .bad j | .ok x j => pL el l m j false (xs ++ [x])) := Lib.hid (by rw [hr, if_neg (by simp), if_pos rfl]; cases el i <;> rfl)
      have HEL := Lib.hid (h1.out xs i w5 HK5.out hi)
      clear hr HR1 HC
      obtain ⟨q, hq⟩ : ∃ q, el (i) = q := ⟨_, rfl⟩
      have HFW := Lib.hid (hf.out (i) (by omega))
      rw [hq] at HEL HR2 HFW
      clear hq
      go_wp2_with fail
      refine HEL.out.mono ?_
      rintro e w7 ⟨rfl, hP⟩
      cases q with
      | ok x j =>
        have HK7 : Hid (K (xs ++ [x]) j false w7) := Lib.hid hP
        have hfw := HFW.out
        have hij := hfw.2.2 x j rfl
        have hjl : j < l.length := hfw.2.1
        have HR3 : Hid (R = if false = true then .bad j else pL el l m j false (xs ++ [x])) := Lib.hid (by rw [HR2.out]; rfl)
        clear hP hfw HFW HEL HR2
        go_wp2_with fail
        go_roundg (if false = true then 0 else l.length - j)
        case measure => simp; omega
        case rel => exact ⟨xs ++ [x], j, false, m, false, rfl, rfl, hjl, by omega, HK7, HR3⟩
      | bad j =>
        obtain ⟨ys, hy⟩ : ∃ ys, K ys j true w7 := hP
        have HK7 : Hid (K ys j true w7) := Lib.hid hy
        have hjl : j < l.length := HFW.out.2.1
        have HR3 : Hid (R = if true = true then .bad j else pL el l l.length j false ys) := Lib.hid (by rw [HR2.out]; rfl)
        clear hy HFW HEL HR2
        go_wp2_with fail
        go_roundg (if true = true then 0 else l.length - j)
        case measure => simp; omega
        case rel => exact ⟨ys, j, true, l.length, false, rfl, rfl, hjl, by omega, HK7, HR3⟩
    have HTK := Lib.hid (take_x rb la lc S l i false sCm w5 HRd5.out hi hl)
    obtain ⟨c2, hc2⟩ : ∃ c, isB (tk l i) sCm = c := ⟨_, rfl⟩
    have hte : takeF l i false sCm = if c2 = true then (i + 1, false) else (i, true) := by unfold takeF; rw [hc2]; simp
    rw [hte] at HTK
    rw [hc2] at hr
    have HC2 := Lib.hid hc2
    clear hte hc2 HR1 HC
    cases c2
    case false =>
      have HR2 : Hid (R = .bad i) := Lib.hid (by rw [hr, if_pos ⟨rfl, rfl⟩])
      rw [if_neg (by decide)] at HTK
      clear hr
      go_wp2_with fail
      try rw [hs3]
      refine HTK.out.mono ?_
      rintro e w6 ⟨rfl, hu5, hr5⟩
      have HK6 := Lib.hid (hK0.out _ _ _ _ HK5.out hu5 hr5)
      have HEL := Lib.hid (h2.out xs i w6 HK6.out hi)
      clear hu5 hr5 HTK
      go_wp2_with fail
      refine HEL.out.mono ?_
      rintro e w7 ⟨rfl, ys, hy⟩
      have HK7 : Hid (K ys i true w7) := Lib.hid hy
      have HR3 : Hid (R = if true = true then .bad i else pL el l l.length i false ys) := Lib.hid (by rw [HR2.out]; rfl)
      clear hy HEL HR2
      go_wp2_with fail
      go_roundg (if true = true then 0 else l.length - i)
      case measure => simp; omega
      case rel => exact ⟨ys, i, true, l.length, false, rfl, rfl, hi, by omega, HK7, HR3⟩
    have hi2 := hE.out.isB hi HC2.out
    have HR2 : Hid (R = match el (i + 1) with | .bad j => .bad j | .ok x j => pL el l m j false (xs ++ [x])) := Lib.hid (by rw [hr, if_neg (by simp), if_neg (by decide)]; cases el (i + 1) <;> rfl)
    rw [if_pos rfl] at HTK
    clear hr
    go_wp2_with fail
    try rw [hs3]
    refine HTK.out.mono ?_
    rintro e w6 ⟨rfl, hu5, hr5⟩
    have HK6 := Lib.hid (hK2.out _ _ _ _ _ _ _ HK5.out (Nat.le_succ _) (fun h => h) hu5 hr5)
    have HEL := Lib.hid (h1.out xs (i + 1) w6 HK6.out hi2)
    clear hu5 hr5 HTK
    obtain ⟨q, hq⟩ : ∃ q, el (i + 1) = q := ⟨_, rfl⟩
    have HFW := Lib.hid (hf.out (i + 1) (by omega))
    rw [hq] at HEL HR2 HFW
    clear hq
    go_wp2_with fail
    refine HEL.out.mono ?_
    rintro e w7 ⟨rfl, hP⟩
    cases q with
    | ok x j =>
      have HK7 : Hid (K (xs ++ [x]) j false w7) := Lib.hid hP
      have hfw := HFW.out
      have hij := hfw.2.2 x j rfl
      have hjl : j < l.length := hfw.2.1
      have HR3 : Hid (R = if false = true then .bad j else pL el l m j false (xs ++ [x])) := Lib.hid (by rw [HR2.out]; rfl)
      clear hP hfw HFW HEL HR2
      go_wp2_with fail
      go_roundg (if false = true then 0 else l.length - j)
      case measure => simp; omega
      case rel => exact ⟨xs ++ [x], j, false, m, false, rfl, rfl, hjl, by omega, HK7, HR3⟩
    | bad j =>
      obtain ⟨ys, hy⟩ : ∃ ys, K ys j true w7 := hP
      have HK7 : Hid (K ys j true w7) := Lib.hid hy
      have hjl : j < l.length := HFW.out.2.1
      have HR3 : Hid (R = if true = true then .bad j else pL el l l.length j false ys) := Lib.hid (by rw [HR2.out]; rfl)
      clear hy HFW HEL HR2
      go_wp2_with fail
      go_roundg (if true = true then 0 else l.length - j)
      case measure => simp; omega
      case rel => exact ⟨ys, j, true, l.length, false, rfl, rfl, hjl, by omega, HK7, HR3⟩

end Go.Proofs.YtjjaknmnhhfjeaaGreatDoor

/- A part that was read is appended: what holds behind it. -/
namespace Go.Proofs.YtjjaknmnhhfjeaaGreatDoor
open Go.RowKit Go.Hw Go
set_option linter.unusedVariables false
set_option linter.unusedSimpArgs false

open Tm
def TmM (rb : Nat) (la : Option Addr) (lc : Nat) (S : Nat → Prop) (l : List Tok) (r : PR Tm) (t : Tm) (W' : World) : Prop := match r with
  | .ok t' j => t = t' ∧ Rd rb la lc S l W' j false
  | .bad j => Rd rb la lc S l W' j true
def TmP (rb : Nat) (la : Option Addr) (lc : Nat) (S : Nat → Prop) (l : List Tok) (r : PR Tm) (e : Ending) (W W' : World) : Prop :=
  ∃ (t : Tm) (u : Value) (B : Nat → Prop), e = .returned (tV t u) ∧ TlO 24 W' B t.kids u ∧ (∀ j, B j → W.heap.size ≤ j ∧ j < W'.heap.size) ∧ Upd (fun k => k = rb) W W' ∧ TmM rb la lc S l r t W'
structure KT (rb : Nat) (la : Option Addr) (lc : Nat) (S : Nat → Prop) (l : List Tok) (tb rx n0 : Nat) (nm : By) (w0 : World) (xs : List Tm) (i : Nat) (b : Bool) (W : World) : Prop where
  rd : Rd rb la lc S l W i b
  tbx : ∃ lv us Bk, W.heap[tb]? = some (.cells #[.string nm, .string nul, lv] 24 (0, 0)) ∧ CpJ 24 n0 W xs lv us Bk xs.length
  rxx : W.heap[rx]? = some (.cells #[.pointer (some ⟨rb, 0, none⟩)] 101 (0, 0))
  sz : n0 ≤ W.heap.size
  up : Upd (fun k => k = rb ∨ w0.heap.size ≤ k) w0 W
  ln : xs.length ≤ i + (if b = true then 1 else 0)
theorem CpJ.keep {te : TypeId} {n0 k : Nat} {W W' : World} {L : List Tm} {lv : Value} {us : List Value} {Bk : Nat → Nat → Prop} {F : Nat → Prop} (h : CpJ te n0 W L lv us Bk k) (hu : Upd F W W') (hF : ∀ j, n0 ≤ j → ¬ F j) : CpJ te n0 W' L lv us Bk k :=
  ⟨h.len, own_kept h.own hu (fun j hj => hF j (h.own.lt j hj).1), fun i hi => (h.kid i hi).kept hu (fun j hj => hF j (h.blk i j hi hj).1), fun i j hi hj => ⟨(h.blk i j hi hj).1, Nat.lt_of_lt_of_le (h.blk i j hi hj).2.1 hu.size, (h.blk i j hi hj).2.2⟩, h.dis⟩
theorem KT.to {rb : Nat} {la : Option Addr} {lc : Nat} {S : Nat → Prop} {l : List Tok} {tb rx n0 : Nat} {nm : By} {w0 W W' : World} {xs : List Tm} {i i' : Nat} {b b' : Bool} (h : KT rb la lc S l tb rx n0 nm w0 xs i b W) (h1 : rb < n0) (h2 : tb ≠ rb) (h3 : rx ≠ rb) (hii : i ≤ i') (hbb : b = true → b' = true) (hu : Upd (fun k => k = rb) W W') (hr : Rd rb la lc S l W' i' b') : KT rb la lc S l tb rx n0 nm w0 xs i' b' W' := by
  obtain ⟨lv, us, Bk, k1, k2⟩ := h.tbx
  exact ⟨hr, ⟨lv, us, Bk, hu.heap k1 h2, k2.keep hu (fun j hj e => by omega)⟩, hu.heap h.rxx h3, Nat.le_trans h.sz hu.size, h.up.trans (hu.mono fun _ _ e => .inl e), by
    have h4 := h.ln
    cases b
    · simp at h4; omega
    · rw [hbb rfl]; simp at h4 ⊢; omega⟩
theorem el3_upd (W : World) (z m : Nat) (u0 u1 u2 : Value) : Upd (fun k => k = z) W (((W.setCell ⟨z, m, none⟩ u0).setCell ⟨z, m + 1, none⟩ u1).setCell ⟨z, m + 2, none⟩ u2) :=
  (((Upd.refl (fun k => k = z) W).setCell (p := ⟨z, m, none⟩) (.inl rfl) u0).setCell (p := ⟨z, m + 1, none⟩) (.inl rfl) u1).setCell (p := ⟨z, m + 2, none⟩) (.inl rfl) u2
theorem sbt_own {w : World} {b g n cap : Nat} {xs : List Value} (h : w.ownsRow b 24 3 (.slice (some ⟨g, 0, none⟩) n cap) n xs) (j : Nat) (u0 u1 u2 : Value) :
    (((w.setCell ⟨g, j, none⟩ u0).setCell ⟨g, j + 1, none⟩ u1).setCell ⟨g, j + 2, none⟩ u2).ownsRow b 24 3 (.slice (some ⟨g, 0, none⟩) n cap) n (((xs.set j u0).set (j + 1) u1).set (j + 2) u2) := own_setN (own_setN (own_setN h _ _) _ _) _ _
theorem set_end (cs : List Value) (m : Nat) (hm : cs.length = m) (a b c u0 u1 u2 : Value) : ((((cs ++ [a, b, c]).set m u0).set (m + 1) u1).set (m + 2) u2) = cs ++ [u0, u1, u2] := by
  subst hm
  apply List.ext_getElem?
  intro j
  rcases Nat.lt_trichotomy j cs.length with h | h | h
  · rw [List.getElem?_set_ne (by omega), List.getElem?_set_ne (by omega), List.getElem?_set_ne (by omega), List.getElem?_append_left h, List.getElem?_append_left h]
  · subst h
    rw [List.getElem?_set_ne (by omega), List.getElem?_set_ne (by omega), List.getElem?_set_self (by simp)]
    simp
  · rcases (by omega : j = cs.length + 1 ∨ j = cs.length + 2 ∨ cs.length + 3 ≤ j) with h | h | h
    · subst h
      rw [List.getElem?_set_ne (by omega), List.getElem?_set_self (by simp)]
      simp
    · subst h
      rw [List.getElem?_set_self (by simp)]
      simp
    · rw [List.getElem?_eq_none (by simp; omega), List.getElem?_eq_none (by simp; omega)]
theorem CpJ.snoc {n0 : Nat} {W W1 w5 w8 : World} {xs : List Tm} {lv lv' u : Value} {us : List Value} {Bk : Nat → Nat → Prop} {Bx F : Nat → Prop} {t : Tm} (h : CpJ 24 n0 W xs lv us Bk xs.length) (h0 : n0 ≤ W.heap.size) (h1 : Ext W W1) (hu : Upd (fun k => k < n0) W1 w5)
    (hT : TlO 24 w5 Bx t.kids u) (hB : ∀ j, Bx j → W1.heap.size ≤ j ∧ j < w5.heap.size) (h8 : Upd F w5 w8) (hF : ∀ j, F j → j < n0 ∨ lv.ownBlock = some j)
    (hl : ∀ j, lv'.ownBlock = some j → lv.ownBlock = some j ∨ w5.heap.size ≤ j) (ho : w8.ownsRow n0 24 3 lv' (xs.length + 1) (tCells xs us ++ [.string t.name, .string t.sort, u])) :
    CpJ 24 n0 w8 (xs ++ [t]) lv' (us ++ [u]) (fun i => if i = xs.length then Bx else Bk i) (xs ++ [t]).length := by
  have hw5 : Upd (fun k => k < n0) W w5 := (h1.mono (fun _ _ h => h.elim)).trans hu
  have hlt := fun j hj => h.own.lt j hj
  have hs1 := h1.size
  have hs5 := hu.size
  have hs8 := h8.size
  rw [List.length_append, List.length_singleton]
  refine ⟨by rw [List.length_append, h.len]; rfl, ?_, fun i hi => ?_, fun i j hi hj => ?_, fun i i' j hi hi' hne hj => ?_⟩
  · rw [List.take_of_length_le (by simp), tCells_snoc _ _ _ _ h.len]
    exact ho
  · by_cases e : i = xs.length
    · subst e
      rw [if_pos rfl]
      have e2 : ug (us ++ [u]) xs.length = u := by unfold ug; rw [List.getD_eq_getElem?_getD, List.getElem?_append_right (by rw [h.len]; exact Nat.le_refl _), h.len, Nat.sub_self]; rfl
      have e3 : tg (xs ++ [t]) xs.length = t := by unfold tg; rw [List.getD_eq_getElem?_getD, List.getElem?_append_right (Nat.le_refl _), Nat.sub_self]; rfl
      rw [e2, e3]
      refine hT.kept h8 (fun j hj e => ?_)
      have h2 := (hB j hj).1
      rcases hF j e with h3 | h3
      · omega
      · have := (hlt j h3).2; omega
    · rw [if_neg e]
      have e2 : ug (us ++ [u]) i = ug us i := by unfold ug; rw [List.getD_eq_getElem?_getD, List.getD_eq_getElem?_getD, List.getElem?_append_left (by rw [h.len]; omega)]
      have e3 : tg (xs ++ [t]) i = tg xs i := by unfold tg; rw [List.getD_eq_getElem?_getD, List.getD_eq_getElem?_getD, List.getElem?_append_left (by omega)]
      rw [e2, e3]
      have hb := fun j hj => h.blk i j (by omega) hj
      exact ((h.kid i (by omega)).kept hw5 (fun j hj e => by have := (hb j hj).1; omega)).kept h8 (fun j hj e => by
        rcases hF j e with h3 | h3
        · have := (hb j hj).1; omega
        · exact (hb j hj).2.2 h3)
  · by_cases e : i = xs.length
    · subst e
      rw [if_pos rfl] at hj
      have h2 := hB j hj
      refine ⟨by omega, by omega, fun e => ?_⟩
      rcases hl j e with h3 | h3
      · have := (hlt j h3).2; omega
      · omega
    · rw [if_neg e] at hj
      obtain ⟨b1, b2, b3⟩ := h.blk i j (by omega) hj
      refine ⟨b1, by omega, fun e => ?_⟩
      rcases hl j e with h3 | h3
      · exact b3 h3
      · omega
  · by_cases e : i = xs.length
    · subst e
      rw [if_pos rfl] at hj
      have h2 := hB j hj
      rw [if_neg (fun e => hne e.symm)]
      intro h3
      have := (h.blk i' j (by omega) h3).2.1
      omega
    · rw [if_neg e] at hj
      by_cases e' : i' = xs.length
      · subst e'
        rw [if_pos rfl]
        intro h3
        have h4 := hB j h3
        have := (h.blk i j (by omega) hj).2.1
        omega
      · rw [if_neg e']
        exact h.dis i i' j (by omega) (by omega) hne hj
theorem part_fin {rb : Nat} {la : Option Addr} {lc : Nat} {S : Nat → Prop} {l : List Tok} {tb rx n0 : Nat} {nm : By} {w0 w w5 wA w7 w8 : World} {xs : List Tm} {i : Nat} {b : Bool} {r : PR Tm} {t : Tm} {us : List Value} {Bk : Nat → Nat → Prop} {Bx : Nat → Prop} {la0 ya : Option Addr} {lc0 yc gn cn : Nat}
    (h1 : rb < n0) (h2 : tb ≠ rb) (h3 : rx ≠ rb) (htb : tb < n0) (htb0 : w0.heap.size ≤ tb) (htx : rx ≠ tb) (hn0 : w0.heap.size ≤ n0) (hrx : rx < n0) (hrb : rb < w0.heap.size) (hSw : ∀ k, S k → k < w0.heap.size) (hln : xs.length ≤ i) (hat : ∀ x j, r = .ok x j → i < j) (hbt : ∀ j, r = .bad j → i ≤ j)
    (hK : KT rb la lc S l tb rx n0 nm w0 xs i b w) (hC : CpJ 24 n0 w xs (.slice la0 xs.length lc0) us Bk xs.length) (hW5 : ∃ W1, Ext w W1 ∧ Upd (fun k => k = rb) W1 w5 ∧ ∀ j, Bx j → W1.heap.size ≤ j ∧ j < w5.heap.size) (hT : TlO 24 w5 Bx t.kids (.slice ya t.kids.length yc))
    (hM : TmM rb la lc S l r t w5) (hA : Ext w5 wA)
    (hG : Grew n0 24 3 (.slice la0 xs.length lc0) (xs.length + 1) (tCells xs us ++ [Value.string ⟨#[]⟩, .string ⟨#[]⟩, .slice none 0 0]) wA w7 (.slice (some ⟨gn, 0, none⟩) (xs.length + 1) cn)) (hB : w7.heap[tb]? = some (.cells #[.string nm, .string nul, .slice la0 xs.length lc0] 24 (0, 0)))
    (h8 : w8 = ((((w7.setCell ⟨gn, xs.length * 3, none⟩ (.string t.name)).setCell ⟨gn, xs.length * 3 + 1, none⟩ (.string t.sort)).setCell ⟨gn, xs.length * 3 + 2, none⟩ (.slice ya t.kids.length yc)).setCell ⟨tb, 2, none⟩ (.slice (some ⟨gn, 0, none⟩) (xs.length + 1) cn)) ∨ w8 = ((((w7.setCell ⟨tb, 2, none⟩ (.slice (some ⟨gn, 0, none⟩) (xs.length + 1) cn)).setCell ⟨gn, xs.length * 3, none⟩ (.string t.name)).setCell ⟨gn, xs.length * 3 + 1, none⟩ (.string t.sort)).setCell ⟨gn, xs.length * 3 + 2, none⟩ (.slice ya t.kids.length yc))) : ElP (KT rb la lc S l tb rx n0 nm w0) xs r w8 := by
  obtain ⟨W1, hw1, hu1, hBx⟩ := hW5
  have hgn : n0 ≤ gn := (hG.own.lt gn rfl).1
  have hset := set_end (tCells xs us) (xs.length * 3) (tCells_len xs us) (.string ⟨#[]⟩) (.string ⟨#[]⟩) (.slice none 0 0) (.string t.name) (.string t.sort) (.slice ya t.kids.length yc)
  have key : w8.ownsRow n0 24 3 (.slice (some ⟨gn, 0, none⟩) (xs.length + 1) cn) (xs.length + 1) (tCells xs us ++ [.string t.name, .string t.sort, .slice ya t.kids.length yc]) ∧ w8.heap[tb]? = some (.cells #[.string nm, .string nul, .slice (some ⟨gn, 0, none⟩) (xs.length + 1) cn] 24 (0, 0)) ∧ Upd (fun k => k = gn ∨ k = tb) w7 w8 := by
    rcases h8 with rfl | rfl
    · have hu := el3_upd w7 gn (xs.length * 3) (.string t.name) (.string t.sort) (.slice ya t.kids.length yc)
      have ho := sbt_own hG.own (xs.length * 3) (.string t.name) (.string t.sort) (.slice ya t.kids.length yc)
      rw [hset] at ho
      have hb := hu.heap hB (by omega)
      refine ⟨own_kept ho ((Upd.refl (fun k => k = tb) _).setCell (p := ⟨tb, 2, none⟩) (.inl rfl) _) (fun j hj e => ?_), by have := setBlock hb 2 (.slice (some ⟨gn, 0, none⟩) (xs.length + 1) cn); simpa using this, (hu.mono (fun _ _ e => .inl e)).setCell (p := ⟨tb, 2, none⟩) (.inl (.inr rfl)) _⟩
      have hj2 : gn = j := Option.some.inj hj
      omega
    · have hut := (Upd.refl (fun k => k = tb) w7).setCell (p := ⟨tb, 2, none⟩) (.inl rfl) (.slice (some ⟨gn, 0, none⟩) (xs.length + 1) cn)
      have hot := own_kept hG.own hut (fun j hj e => by have hj2 : gn = j := Option.some.inj hj; omega)
      have ho := sbt_own hot (xs.length * 3) (.string t.name) (.string t.sort) (.slice ya t.kids.length yc)
      rw [hset] at ho
      have hu := el3_upd (w7.setCell ⟨tb, 2, none⟩ (.slice (some ⟨gn, 0, none⟩) (xs.length + 1) cn)) gn (xs.length * 3) (.string t.name) (.string t.sort) (.slice ya t.kids.length yc)
      have hb := setBlock hB 2 (.slice (some ⟨gn, 0, none⟩) (xs.length + 1) cn)
      exact ⟨ho, hu.heap (by simpa using hb) (by omega), (hut.mono (fun _ _ e => .inr e)).trans (hu.mono (fun _ _ e => .inl e))⟩
  obtain ⟨ho8, hb8, hu78⟩ := key
  have hl : ∀ j, (Value.slice (some ⟨gn, 0, none⟩) (xs.length + 1) cn).ownBlock = some j → (Value.slice la0 xs.length lc0).ownBlock = some j ∨ w5.heap.size ≤ j := fun j e => by
    rcases hG.where_ with h | h
    · rw [h] at e; exact .inl e
    · rw [h] at e; injection e with e; have := hA.size; exact .inr (by omega)
  have hu58 : Upd (fun j => j = tb ∨ (Value.slice la0 xs.length lc0).ownBlock = some j) w5 w8 := (((hA.mono (fun _ _ h => h.elim)).trans (hG.upd.mono (fun _ _ e => .inr e)))).trans' hu78 (fun j hj e => by
    rcases e with e | e
    · rcases hl j (by rw [e]; rfl) with h | h
      · exact .inr h
      · omega
    · exact .inl e)
  have hown := hC.own
  have hlt := fun j hj => (hown.lt j hj).1
  have hC8 := hC.snoc (lv' := .slice (some ⟨gn, 0, none⟩) (xs.length + 1) cn) hK.sz hw1 (hu1.mono (fun k _ e => by omega)) hT hBx hu58 (fun j hj => hj.imp (fun e => by omega) id) hl ho8
  have hu5 : Upd (fun k => k = rb) w w5 := (hw1.mono (fun _ _ h => h.elim)).trans hu1
  have hR8 : ∀ j bb, Rd rb la lc S l w5 j bb → Rd rb la lc S l w8 j bb := fun j bb h => ⟨hu58.heap h.box (fun e => by
    rcases e with e | e
    · exact h2 e.symm
    · have := hlt _ e; omega), h.tk.kept hu58 (fun k hk e => by
    have := hSw k hk
    rcases e with e | e
    · omega
    · have := hlt _ e; omega), h.apart⟩
  have hrx8 := hu58.heap (hu5.heap hK.rxx h3) (fun e => by
    rcases e with e | e
    · exact htx e
    · have := hlt _ e; omega)
  have hsz8 : n0 ≤ w8.heap.size := Nat.le_trans hK.sz (Nat.le_trans hu5.size hu58.size)
  have hup8 : Upd (fun k => k = rb ∨ w0.heap.size ≤ k) w0 w8 := (hK.up.trans (hu5.mono fun _ _ e => .inl e)).trans (hu58.mono fun k _ e => .inr (by
    rcases e with e | e
    · omega
    · have := hlt _ e; omega))
  have hlen : (xs ++ [t]).length = xs.length + 1 := by simp
  cases r with
  | ok t' j =>
    obtain ⟨rfl, hr⟩ := hM
    exact ⟨hR8 j false hr, ⟨_, _, _, hb8, hC8⟩, hrx8, hsz8, hup8, by have := hat _ _ rfl; rw [hlen]; simp; omega⟩
  | bad j =>
    exact ⟨xs ++ [t], hR8 j true hM, ⟨_, _, _, hb8, hC8⟩, hrx8, hsz8, hup8, by have := hbt _ rfl; rw [hlen]; simp; omega⟩

end Go.Proofs.YtjjaknmnhhfjeaaGreatDoor

/- A part is read and appended. -/
namespace Go.Proofs.YtjjaknmnhhfjeaaGreatDoor
open Go.RowKit Go.Hw Go
set_option linter.unusedVariables false
set_option linter.unusedSimpArgs false
open Tm
set_option maxRecDepth 100000 in
set_option maxHeartbeats 8000000 in
theorem part_x (rb : Nat) (la : Option Addr) (lc : Nat) (S : Nat → Prop) (l : List Tok) (tb rx n0 : Nat) (nm : By) (w0 : World) (hl : l.length ≤ 1000000) (h1 : rb < n0) (h2 : tb ≠ rb) (h3 : rx ≠ rb) (htb : tb < n0) (htb0 : w0.heap.size ≤ tb) (htx : rx ≠ tb) (hn0 : w0.heap.size ≤ n0)
    (hrb : rb < w0.heap.size) (hSw : ∀ k, S k → k < w0.heap.size) (xs : List Tm) (i : Nat) (b : Bool) (w : World) (r : PR Tm) (h0 : KT rb la lc S l tb rx n0 nm w0 xs i b w) (hi : i < l.length) (hln : xs.length ≤ i) (hrx : rx < n0) (hat : ∀ x j, r = .ok x j → i < j) (hbt : ∀ j, r = .bad j → i ≤ j)
    (hix : ∀ W, Ext w W → Calls Tryz.prog 77 #[.pointer (some ⟨rb, 0, none⟩)] W fun e W' => TmP rb la lc S l r e W W') :
    Calls Tryz.prog 111 #[.pointer (some ⟨tb, 0, none⟩), .pointer (some ⟨rx, 0, none⟩)] w fun e w' => e = .returned (.tuple #[]) ∧ ElP (KT rb la lc S l tb rx n0 nm w0) xs r w' := by
  have HIX := Lib.hid hix
  have HK := Lib.hid h0
  obtain ⟨lv, us, Bk, htx2, hcp⟩ := h0.tbx
  obtain ⟨la0, lc0, hlv⟩ := own_shape hcp.own
  subst hlv
  have hown := hcp.own
  rw [List.take_length] at hown
  have HOW := Lib.hid hown
  have HCP := Lib.hid hcp
  have HTBX := Lib.hid htx2
  have HRN : Hid (rb < n0) := Lib.hid h1
  have HTR : Hid (tb ≠ rb) := Lib.hid h2
  have HSZ := Lib.hid h0.sz
  have HX1 : Hid (Ext w w.drew) := Lib.hid (Upd.refl (fun _ => False) w).drew
  have HX2 : Hid (Ext w (w.alloc (.cells #[.string ⟨#[]⟩, .string ⟨#[]⟩, .slice none 0 0] 24)).drew) := Lib.hid ((Upd.refl (fun _ => False) w).alloc _).drew
  have hrbw : rb < w.heap.size := (Array.getElem?_eq_some_iff.1 h0.rd.box).1
  have HRW : Hid (¬ w.heap.size = rb) := Lib.hid (by omega)
  have HNT : Hid (¬ (Value.slice la0 xs.length lc0).ownBlock = some tb) := Lib.hid (fun e => by have := (hown.lt _ e).1; omega)
  have HONE : Hid (∀ u ∈ [Value.string ⟨#[]⟩, .string ⟨#[]⟩, .slice none 0 0], u.oneCell' = true) := Lib.hid (fun u hu => by simp at hu; rcases hu with h | h <;> (subst h; rfl))
  have HLM : Hid (xs.length + 1 ≤ maxLen ∧ (xs.length + 1) * 56 ≤ 140737488355328) := Lib.hid ⟨by unfold maxLen; omega, by omega⟩
  have htl : (tCells xs us).length = xs.length * 3 := tCells_len xs us
  have HLA : Hid (∀ m, m < 3 → (tCells xs us ++ [Value.string ⟨#[]⟩, .string ⟨#[]⟩, .slice none 0 0])[xs.length * 3 + m]? = [Value.string ⟨#[]⟩, .string ⟨#[]⟩, .slice none 0 0][m]?) := Lib.hid (fun m hm => by rw [List.getElem?_append_right (by omega), htl]; congr 1; omega)
  obtain ⟨iT, hi0, hz0, hz1, hz2⟩ := info_parts infoT
  have hi := hi0
  have c2 := cellRow htx2 2 (.slice la0 xs.length lc0) rfl
  have r0 := cellRow h0.rxx 0 (.pointer (some ⟨rb, 0, none⟩)) rfl
  have c2b := ((Upd.refl (fun _ => False) w).alloc (.cells #[.string ⟨#[]⟩, .string ⟨#[]⟩, .slice none 0 0] 24)).cell c2 (fun h => h)
  have r0b := ((Upd.refl (fun _ => False) w).alloc (.cells #[.string ⟨#[]⟩, .string ⟨#[]⟩, .slice none 0 0] 24)).cell r0 (fun h => h)
  have k0 : (0 : Int) ≤ (xs.length : Int) := by omega
  have k1 : (xs.length : Int) < (xs.length : Int) + 1 := by omega
  have HTL := Lib.hid htl
  clear hix h0 htx2 hcp hown hrbw htl
  go_enter Tryz.func111, Tryz.ntmps111
  go_region_law (first
  | (refine step_append_at _ (.tmp 3) (.tmp 7) 22 rfl n0 24 iT (.agg #[.string ⟨#[]⟩, .string ⟨#[]⟩, .slice none 0 0]) 3 56 Tryz.underlying22 hi hz0 hz1 hz2 rfl (by decide) _ _ _ rfl (by first | exact HOA.out | exact HOB.out) _ 1 1 [Value.string ⟨#[]⟩, .string ⟨#[]⟩, .slice none 0 0] rfl rfl (by first | exact HNA.out | exact HNB.out) HONE.out HLM.out.1 HLM.out.2 (by first | exact HSA.out | exact HSB.out) ?_; intro v7 w7 hG7; obtain ⟨gn, cn, cur, hv7, hg7, hsz7⟩ := own_row0 hG7.own (Nat.succ_pos _); subst hv7; have hb7 := hG7.upd.heap (by first | exact HTA.out | exact HTB.out) HNT.out; have f7 := fun i => frozenRow hg7 i; have ft7 := fun i => frozenRow hb7 i; have t72 := cellRow hb7 2 (.slice la0 xs.length lc0) rfl; have g0 := (World.ownsRow.cellAt hG7.own (xs.length * 3) (by omega)).trans (HLA.out 0 (by omega)); have g1 := (World.ownsRow.cellAt hG7.own (xs.length * 3 + 1) (by omega)).trans (HLA.out 1 (by omega)); have g2 := (World.ownsRow.cellAt hG7.own (xs.length * 3 + 2) (by omega)).trans (HLA.out 2 (by omega)); have hgn := (hG7.own.lt gn rfl).1; have HNG : Hid (gn ≠ tb ∧ n0 ≤ gn) := Lib.hid ⟨by omega, hgn⟩; have tA := (el3_upd w7 gn (xs.length * 3) (.string t.name) (.string t.sort) (.slice ya t.kids.length yc)).cell t72 (by show ¬ tb = gn; have := HNG.out; omega); have hus := (Upd.refl (fun k => k = tb) w7).setCell (p := ⟨tb, 2, none⟩) (.inl rfl) (.slice (some ⟨gn, 0, none⟩) (xs.length + 1) cn); have gA0 := hus.cell g0 (by show ¬ gn = tb; exact HNG.out.1); have gA1 := hus.cell g1 (by show ¬ gn = tb; exact HNG.out.1); have gA2 := hus.cell g2 (by show ¬ gn = tb; exact HNG.out.1); clear hus hgn; have HB7 := Lib.hid hb7; have HG7 := Lib.hid hG7; have HGR : Hid (w7.heap[gn]? = some (.cells cur 24 (0, 0))) := Lib.hid hg7; clear hG7 hb7 hg7)
  | (go_simp; refine (HIX.out _ (by first | exact HX1.out | exact HX2.out)).mono ?_; rintro e w5 ⟨t, u, Bx, rfl, hT5, hb5, hu5, hm5⟩; obtain ⟨ya, yc, hry⟩ := TlO.shape hT5; subst hry; have HT5 := Lib.hid hT5; have HBX5 := Lib.hid hb5; have HU5 : Hid (Upd (fun k => k = rb) w w5) := Lib.hid (((by first | exact HX1.out | exact HX2.out : Ext w _).mono (fun _ _ h => h.elim)).trans hu5); have HW5 : Hid (∃ W1, Ext w W1 ∧ Upd (fun k => k = rb) W1 w5 ∧ ∀ j, Bx j → W1.heap.size ≤ j ∧ j < w5.heap.size) := Lib.hid ⟨_, (by first | exact HX1.out | exact HX2.out), hu5, hb5⟩; have HM5 := Lib.hid hm5; have HOB := Lib.hid (own_kept HOW.out HU5.out (fun j hj e => by have := (HOW.out.lt j hj).1; have := HRN.out; omega)); have HOA := Lib.hid (HOB.out.alloc (.cells #[.string ⟨#[]⟩, .string ⟨#[]⟩, .slice none 0 0] 24)); have HTB := Lib.hid (HU5.out.heap HTBX.out HTR.out); have HTA := Lib.hid (allocOld HTB.out (.cells #[.string ⟨#[]⟩, .string ⟨#[]⟩, .slice none 0 0] 24)); have HNA := Lib.hid (new3 w5 (.string ⟨#[]⟩) (.string ⟨#[]⟩) (.slice none 0 0) 24); have HSB : Hid (n0 ≤ w5.heap.size) := Lib.hid (Nat.le_trans HSZ.out HU5.out.size); have HSA : Hid (n0 ≤ (w5.alloc (.cells #[.string ⟨#[]⟩, .string ⟨#[]⟩, .slice none 0 0] 24)).heap.size) := Lib.hid (by rw [alloc_size]; have := HSB.out; omega); have c5 := cellRow HTB.out 2 (.slice la0 xs.length lc0) rfl; have c5a := cellRow HTA.out 2 (.slice la0 xs.length lc0) rfl; try (have HNB := Lib.hid (fun (j : Nat) (v : Value) (hj : [Value.string ⟨#[]⟩, .string ⟨#[]⟩, .slice none 0 0][j]? = some v) => hu5.cell (new3 w (.string ⟨#[]⟩) (.string ⟨#[]⟩) (.slice none 0 0) 24 j v hj) (by cases j with | zero => simp [Addr.add]; exact HRW.out | succ j => simp [Addr.add]; exact HRW.out))); clear hT5 hb5 hu5 hm5))
  all_goals (go_wp2_with fail)
  all_goals go_end0
  all_goals refine ⟨rfl, ?_⟩
  all_goals first
    | exact part_fin h1 h2 h3 htb htb0 htx hn0 hrx hrb hSw hln hat hbt HK.out HCP.out HW5.out HT5.out HM5.out (by with_reducible first | exact Upd.refl _ _ | exact Upd.alloc (Upd.refl _ _) _) HG7.out HB7.out (.inl (by with_reducible rfl))
    | exact part_fin h1 h2 h3 htb htb0 htx hn0 hrx hrb hSw hln hat hbt HK.out HCP.out HW5.out HT5.out HM5.out (by with_reducible first | exact Upd.refl _ _ | exact Upd.alloc (Upd.refl _ _) _) HG7.out HB7.out (.inr (by with_reducible rfl))

end Go.Proofs.YtjjaknmnhhfjeaaGreatDoor

/- A term is read. -/
namespace Go.Proofs.YtjjaknmnhhfjeaaGreatDoor
open Go.RowKit Go.Hw Go
set_option linter.unusedVariables false
set_option linter.unusedSimpArgs false

open Tm
theorem Rd.keep {rb : Nat} {la : Option Addr} {lc : Nat} {S F : Nat → Prop} {l : List Tok} {W W' : World} {i : Nat} {b : Bool} (h : Rd rb la lc S l W i b) (hu : Upd F W W') (hr : ¬ F rb) (hS : ∀ k, S k → ¬ F k) : Rd rb la lc S l W' i b := ⟨hu.heap h.box hr, h.tk.kept hu hS, h.apart⟩
set_option maxRecDepth 100000 in
set_option maxHeartbeats 8000000 in
theorem term_x (rb : Nat) (la : Option Addr) (lc : Nat) (S : Nat → Prop) (l : List Tok) (hE : Ended l) (hl : l.length ≤ 1000000) : ∀ (n i : Nat) (b : Bool) (w : World), Rd rb la lc S l w i b → i < l.length → l.length - i ≤ n → (∀ k, S k → k < w.heap.size) →
    Calls Tryz.prog 77 #[.pointer (some ⟨rb, 0, none⟩)] w fun e w' => TmP rb la lc S l (if b = true then .bad i else pT l n i) e w w' := by
  intro n
  induction n with
  | zero => intro i b w _ hi hn; omega
  | succ n ih =>
  intro i b w hR hi hn hS
  have HR := Lib.hid hR
  have HSS := Lib.hid hS
  have HIH := Lib.hid ih
  have HEN := Lib.hid hE
  have hrbw : rb < w.heap.size := (Array.getElem?_eq_some_iff.1 hR.box).1
  obtain ⟨q, hq⟩ : ∃ q, (if b = true then PR.bad i else pT l (n + 1) i) = q := ⟨_, rfl⟩
  rw [hq]
  have HQ := Lib.hid hq
  obtain ⟨rx, hrx⟩ : ∃ rx, w.heap.size = rx := ⟨_, rfl⟩
  have HE0 := Lib.hid (((Upd.refl (fun _ => False) w).alloc (.cells #[.pointer (some ⟨rb, 0, none⟩)] 101)).alloc (.cells #[.string ⟨#[]⟩, .string ⟨#[]⟩, .slice none 0 0] 24))
  have HX0 := Lib.hid (allocOld (alloc0 w (.cells #[.pointer (some ⟨rb, 0, none⟩)] 101)) (.cells #[.string ⟨#[]⟩, .string ⟨#[]⟩, .slice none 0 0] 24))
  have HZ0 := Lib.hid (alloc_at (w.alloc (.cells #[.pointer (some ⟨rb, 0, none⟩)] 101)) (.cells #[.string ⟨#[]⟩, .string ⟨#[]⟩, .slice none 0 0] 24) (n := w.heap.size + 1) (by simp))
  have hsz0 : ((w.alloc (.cells #[.pointer (some ⟨rb, 0, none⟩)] 101)).alloc (.cells #[.string ⟨#[]⟩, .string ⟨#[]⟩, .slice none 0 0] 24)).heap.size = w.heap.size + 2 := by simp
  rw [hrx] at HX0
  rw [hrx] at HZ0
  have hs1 : (⟨#[58]⟩ : By) = sCl := rfl
  have x0 := cellRow HX0.out 0 (.pointer (some ⟨rb, 0, none⟩)) rfl
  have HR1 := Lib.hid (HR.out.ext HE0.out)
  clear hR hS ih hq
  go_enter Tryz.func77, Tryz.ntmps77
  go_upto_region 1 with fail
  try rw [hrx]
  generalize ((w.alloc (.cells #[.pointer (some ⟨rb, 0, none⟩)] 101)).alloc (.cells #[.string ⟨#[]⟩, .string ⟨#[]⟩, .slice none 0 0] 24)) = w1 at *
  have HNM := Lib.hid (name_x rb la lc S l i b w1 HR1.out hi hl)
  have HNF : Hid (nameF l i b = if b = false ∧ (tk l i).kind = 1 then ((tk l i).text, i + 1, false) else (nul, i, true)) := Lib.hid rfl
  obtain ⟨⟨nm, i2, b2⟩, hnf⟩ : ∃ p, nameF l i b = p := ⟨_, rfl⟩
  rw [hnf] at HNM HNF
  dsimp only at HNM
  clear hnf
  go_wp2_with fail
  refine HNM.out.mono ?_
  rintro e w3 ⟨rfl, hu3, hr3⟩
  dsimp only at hr3
  have HU3 := Lib.hid hu3
  have HR3 := Lib.hid hr3
  have HX3 := Lib.hid (hu3.heap HX0.out (by omega))
  have HZ3 := Lib.hid (hu3.heap HZ0.out (by omega))
  have hs3 := hu3.size
  clear hu3 hr3 HNM x0
  -- where it stands
  have HI2 : Hid (i2 < l.length ∧ (b2 = true → i2 = i ∧ q = .bad i ∧ nm = nul) ∧ (b2 = false → i2 = i + 1 ∧ b = false ∧ (tk l i).kind = 1 ∧ nm = (tk l i).text)) := Lib.hid (by
    have h1 := HNF.out
    have h2 := HQ.out
    by_cases hc : b = false ∧ (tk l i).kind = 1
    · rw [if_pos hc] at h1
      injection h1 with e1 e2
      injection e2 with e2 e3
      subst e1; subst e2; subst e3
      exact ⟨HEN.out.next hi (by omega), fun h => (by cases h), fun _ => ⟨rfl, hc.1, hc.2, rfl⟩⟩
    · rw [if_neg hc] at h1
      injection h1 with e1 e2
      injection e2 with e2 e3
      subst e1; subst e2; subst e3
      refine ⟨hi, fun _ => ⟨rfl, ?_, rfl⟩, fun h => (by cases h)⟩
      rw [← h2]
      by_cases hb : b = true
      · rw [if_pos hb]
      · rw [if_neg hb, pT, if_pos (fun h => hc ⟨by simpa using hb, h⟩)])
  obtain ⟨hi2, hbad, hgood⟩ := HI2.out
  have HBAD := Lib.hid hbad
  have HGOOD := Lib.hid hgood
  have x0 := cellRow HX3.out 0 (.pointer (some ⟨rb, 0, none⟩)) rfl
  have HE4 := Lib.hid ((Upd.refl (fun _ => False) w3).alloc (.cells #[.string nm, .string ⟨#[]⟩, .slice none 0 0] 24))
  have HT4 := Lib.hid (alloc0 w3 (.cells #[.string nm, .string ⟨#[]⟩, .slice none 0 0] 24))
  have HX4 := Lib.hid (allocOld HX3.out (.cells #[.string nm, .string ⟨#[]⟩, .slice none 0 0] 24))
  have HZ4 := Lib.hid (allocOld HZ3.out (.cells #[.string nm, .string ⟨#[]⟩, .slice none 0 0] 24))
  have HR4 := Lib.hid (HR3.out.ext HE4.out)
  have hs4 := alloc_size w3 (.cells #[.string nm, .string ⟨#[]⟩, .slice none 0 0] 24)
  clear hbad hgood HNF HI2
  go_upto_region 2 with fail
  obtain ⟨tb, htb⟩ : ∃ tb, w3.heap.size = tb := ⟨_, rfl⟩
  try rw [htb] at HT4
  try rw [htb]
  generalize w3.alloc (.cells #[.string nm, .string ⟨#[]⟩, .slice none 0 0] 24) = w4 at *
  have HU4 : Hid (Upd (fun k => k = rb) w w4) := Lib.hid ((((HE0.out.mono (fun _ _ h => h.elim)).trans HU3.out)).trans (HE4.out.mono (fun _ _ h => h.elim)))
  clear x0
  have x0 := cellRow HX4.out 0 (.pointer (some ⟨rb, 0, none⟩)) rfl
  have HIS := Lib.hid (is_x rb la lc S l i2 b2 sCl w4 HR4.out hi2 hl)
  obtain ⟨c, hc⟩ : ∃ c, (!b2 && isB (tk l i2) sCl) = c := ⟨_, rfl⟩
  rw [hc] at HIS
  have HC := Lib.hid hc
  clear hc
  go_wp2_with fail
  try rw [hs1]
  refine HIS.out.mono ?_
  rintro e w5 ⟨rfl, hw5⟩
  have HR5 := Lib.hid (HR4.out.ext hw5)
  have HX5 := Lib.hid (hw5.heap HX4.out (fun h => h))
  have HZ5 := Lib.hid (hw5.heap HZ4.out (fun h => h))
  have HT5 := Lib.hid (hw5.heap HT4.out (fun h => h))
  have HU5 : Hid (Upd (fun k => k = rb) w w5) := Lib.hid (HU4.out.trans (hw5.mono (fun _ _ h => h.elim)))
  have hs5 := hw5.size
  have H35 : Hid (Ext w3 w5) := Lib.hid (HE4.out.trans hw5)
  have HSS3 : Hid (∀ k, S k → k < w3.heap.size) := Lib.hid (fun k hk => by have := HSS.out k hk; omega)
  clear hw5 HIS x0
  have x0 := cellRow HX5.out 0 (.pointer (some ⟨rb, 0, none⟩)) rfl
  cases c
  case true =>
    -- a variable
    have hb2 : b2 = false := by have := HC.out; cases b2; rfl; simp at this
    subst hb2
    have HGG := Lib.hid (HGOOD.out rfl)
    have hcl : isB (tk l i2) sCl = true := by simpa using HC.out
    have hi3 := HEN.out.isB hi2 hcl
    have HQ2 : Hid (q = if (tk l (i + 2)).kind ≠ 1 then .bad (i + 2) else .ok (.mk (tk l i).text (tk l (i + 2)).text []) (i + 3)) := Lib.hid (by
      obtain ⟨hi2e, hbf, hk1, hnm⟩ := HGG.out
      rw [← HQ.out, if_neg (by rw [hbf]; decide), pT, if_neg (by rw [hk1]; simp), ← hi2e, if_pos hcl])
    have HBR := Lib.hid HR5.out.box
    have c0 := cellRow HBR.out 0 (.slice la l.length lc) rfl
    have c1 := cellRow HBR.out 1 (.int .i64 (i2 : Int)) rfl
    have c2 := cellRow HBR.out 2 (.bool false) rfl
    have fr := fun j => frozenRow HBR.out j
    have hw1 : IntKind.i64.wrap ((i2 : Int) + 1) = (i2 : Int) + 1 := IntWalk.i64_in _ (by omega)
    have hb := setBlock HBR.out 1 (.int .i64 ((i2 : Int) + 1))
    have hu := (Upd.refl (fun k => k = rb) w5).setCell (p := ⟨rb, 1, none⟩) (.inl rfl) (.int .i64 ((i2 : Int) + 1))
    have HR6 : Hid (Rd rb la lc S l (w5.setCell ⟨rb, 1, none⟩ (.int .i64 ((i2 : Int) + 1))) (i2 + 1) false) := Lib.hid (HR5.out.to hu (by simpa using hb))
    have HU6 := Lib.hid (HU5.out.trans hu)
    have HX6 := Lib.hid (hu.heap HX5.out (by omega))
    have HZ6 := Lib.hid (hu.heap HZ5.out (by omega))
    have HT6 := Lib.hid (hu.heap HT5.out (by omega))
    have hs6 := hu.size
    clear hb hu HC HBAD HGOOD
    go_upto_region 4 with fail
    generalize w5.setCell ⟨rb, 1, none⟩ (.int .i64 ((i2 : Int) + 1)) = w6 at *
    clear x0 c0 c1 c2 fr hw1
    have x0 := cellRow HX6.out 0 (.pointer (some ⟨rb, 0, none⟩)) rfl
    have HNM := Lib.hid (name_x rb la lc S l (i2 + 1) false w6 HR6.out hi3 hl)
    have HNF : Hid (nameF l (i2 + 1) false = if false = false ∧ (tk l (i2 + 1)).kind = 1 then ((tk l (i2 + 1)).text, i2 + 1 + 1, false) else (nul, i2 + 1, true)) := Lib.hid rfl
    obtain ⟨⟨so, i4, b4⟩, hnf⟩ : ∃ p, nameF l (i2 + 1) false = p := ⟨_, rfl⟩
    rw [hnf] at HNM HNF
    dsimp only at HNM
    have HM : Hid (∀ W', Rd rb la lc S l W' i4 b4 → TmM rb la lc S l q (.mk nm so []) W') := Lib.hid (fun W' h => by
      obtain ⟨hi2e, hbf, hk1, hnm⟩ := HGG.out
      have h1 := HNF.out
      unfold TmM
      rw [HQ2.out]
      by_cases hc : (tk l (i2 + 1)).kind = 1
      · rw [if_pos ⟨rfl, hc⟩] at h1
        injection h1 with e1 e2
        injection e2 with e2 e3
        subst e1; subst e2; subst e3
        rw [hi2e] at hc h
        have hc' : (tk l (i + 2)).kind = 1 := hc
        rw [if_neg (fun h => h hc')]
        exact ⟨by rw [hnm, hi2e], h⟩
      · rw [if_neg (fun h => hc h.2)] at h1
        injection h1 with e1 e2
        injection e2 with e2 e3
        subst e1; subst e2; subst e3
        rw [hi2e] at hc h
        have hc' : ¬ (tk l (i + 2)).kind = 1 := hc
        rw [if_pos hc']
        exact h)
    clear hnf HNF
    go_wp2_with fail
    refine HNM.out.mono ?_
    rintro e w7 ⟨rfl, hu7, hr7⟩
    dsimp only at hr7
    have HU7 := Lib.hid (HU6.out.trans hu7)
    have HR7 := Lib.hid hr7
    have HT7 := Lib.hid (hu7.heap HT6.out (by omega))
    have HZ7 := Lib.hid (hu7.heap HZ6.out (by omega))
    have hs7 := hu7.size
    clear hu7 hr7 HNM x0
    have t1 := cellRow HT7.out 1 (.string ⟨#[]⟩) rfl
    have ft := fun j => frozenRow HT7.out j
    go_upto_region 5 with fail
    have hbt := setBlock HT7.out 1 (.string so)
    have hut := (Upd.refl (fun k => k = tb) w7).setCell (p := ⟨tb, 1, none⟩) (.inl rfl) (.string so)
    have HT8 : Hid ((w7.setCell ⟨tb, 1, none⟩ (.string so)).heap[tb]? = some (.cells #[.string nm, .string so, .slice none 0 0] 24 (0, 0))) := Lib.hid (by simpa using hbt)
    have HZ8 := Lib.hid (hut.heap HZ7.out (by omega))
    have HUT := Lib.hid hut
    generalize w7.setCell ⟨tb, 1, none⟩ (.string so) = w8 at *
    have hs8 := hut.size
    clear t1 ft hbt hut
    have t0 := cellRow HT8.out 0 (.string nm) rfl
    have t1 := cellRow HT8.out 1 (.string so) rfl
    have t2 := cellRow HT8.out 2 (.slice none 0 0) rfl
    have z0 := cellRow HZ8.out 0 (.string ⟨#[]⟩) rfl
    have z1 := cellRow HZ8.out 1 (.string ⟨#[]⟩) rfl
    have z2 := cellRow HZ8.out 2 (.slice none 0 0) rfl
    have fz := fun j => frozenRow HZ8.out j
    go_wp2_with fail
    have hr3 := st3_heap HZ8.out (.string nm) (.string so) (.slice none 0 0)
    have hu3 := st3_upd' w8 (rx + 1) (.string nm) (.string so) (.slice none 0 0)
    have e0 := cellRow hr3 0 _ rfl
    have e1 := cellRow hr3 1 _ rfl
    have e2 := cellRow hr3 2 _ rfl
    refine bodyPost_ret (v := .agg #[.string nm, .string so, .slice none 0 0]) (by simp [results, Tryz.results77, go_sem, e0, e1, e2]) rfl ?_
    have hup := (HU7.out.trans' HUT.out (fun j hj e => by omega)).trans' hu3 (fun j hj e => by omega)
    have hrd := (HR7.out.keep HUT.out (by omega) (fun k hk e => by have := HSS.out k hk; omega)).keep hu3 (by omega) (fun k hk e => by have := HSS.out k hk; omega)
    exact ⟨.mk nm so [], .slice none 0 0, fun _ => False, rfl, TlO.nil _ _ _, fun j h => h.elim, hup, HM.out _ hrd⟩
  -- an operation
  have HC2 : Hid (b2 = false → isB (tk l i2) sCl = false) := Lib.hid (fun h => by have := HC.out; rw [h] at this; simpa using this)
  have HKT : Hid (KT rb la lc S l tb rx (tb + 1) nm w3 [] i2 b2 w5) := Lib.hid ⟨HR5.out, ⟨_, [], fun _ _ => False, HT5.out, ⟨rfl, ⟨rfl, .inl ⟨rfl, rfl⟩⟩, fun i hi => absurd hi (Nat.not_lt_zero _), fun i j hi => absurd hi (Nat.not_lt_zero _), fun i i' j hi => absurd hi (Nat.not_lt_zero _)⟩⟩, HX5.out, by omega, H35.out.mono (fun _ _ h => h.elim), by simp⟩
  have HKT2 : Hid (b2 = false → i + 1 ≤ i2) := Lib.hid (fun h => by have := (HGOOD.out h).1; omega)
  have hpart : ∀ xs j W (r : PR Tm), KT rb la lc S l tb rx (tb + 1) nm w3 xs j false W → i + 1 ≤ j → ElP (KT rb la lc S l tb rx (tb + 1) nm w3) xs r W → (∀ x k, r = .ok x k → j < k) → ElP (fun xs j b W => KT rb la lc S l tb rx (tb + 1) nm w3 xs j b W ∧ (b = false → i + 1 ≤ j)) xs r W := fun xs j W r _ hj h hk => by
    cases r with
    | ok x k => exact ⟨h, fun _ => by have := hk x k rfl; omega⟩
    | bad k => obtain ⟨ys, hy⟩ := h; exact ⟨ys, hy, fun h => by cases h⟩
  have HLIST := Lib.hid (list111_x (pT l n) (fun xs j b W => KT rb la lc S l tb rx (tb + 1) nm w3 xs j b W ∧ (b = false → i + 1 ≤ j)) (fun xs j W => KT rb la lc S l tb rx (tb + 1) nm w3 xs j true W ∧ xs.length ≤ j ∧ i + 1 ≤ j) rb la lc S l tb rx HEN.out (pT_fwd HEN.out n) hl
    (fun xs i b W h => h.1.rd) (fun xs j b W W' j' b' h h1 h2 hu hr => ⟨h.1.to (by omega) (by omega) (by omega) h1 h2 hu hr, fun hb' => by
      have hb : b = false := by cases b with | false => rfl | true => rw [h2 rfl] at hb'; cases hb'
      have := h.2 hb; omega⟩)
    (fun xs j W W' h hu hr => ⟨h.1.to (by omega) (by omega) (by omega) (Nat.le_refl _) (fun h => by cases h) hu hr, by have := h.1.ln; simpa using this, h.2 rfl⟩)
    (fun xs j W h hj => by
      have hij := h.2 rfl
      have hfw := pT_fwd HEN.out n j hj
      refine (part_x rb la lc S l tb rx (tb + 1) nm w3 hl (by omega) (by omega) (by omega) (by omega) (by omega) (by omega) (by omega) (by omega) HSS3.out xs j false W (pT l n j) h.1 hj (by have := h.1.ln; simpa using this) (by omega) (fun x k e => hfw.2.2 x k e) (fun k e => by have := hfw.1; rw [e] at this; exact this) (fun W2 hW2 => by
          have h9 := HIH.out j false W2 (h.1.rd.ext hW2) hj (by omega) (fun k hk => Nat.lt_of_lt_of_le (HSS3.out k hk) (Nat.le_trans h.1.up.size hW2.size))
          rw [if_neg (by decide)] at h9
          exact h9)).mono (fun e W' he => ⟨he.1, ?_⟩)
      have h9 := he.2
      cases hp : pT l n j with
      | ok x k => rw [hp] at h9; exact ⟨h9, fun _ => by have := hfw.2.2 x k hp; omega⟩
      | bad k => rw [hp] at h9; obtain ⟨ys, hy⟩ := h9; exact ⟨ys, hy, fun h => by cases h⟩)
    (fun xs j W h hj => by
      refine (part_x rb la lc S l tb rx (tb + 1) nm w3 hl (by omega) (by omega) (by omega) (by omega) (by omega) (by omega) (by omega) (by omega) HSS3.out xs j true W (.bad j) h.1 hj h.2.1 (by omega) (fun x k e => by cases e) (fun k e => by injection e with e; omega) (fun W2 hW2 => by
          have h9 := HIH.out j true W2 (h.1.rd.ext hW2) hj (by have := h.2.2; omega) (fun k hk => Nat.lt_of_lt_of_le (HSS3.out k hk) (Nat.le_trans h.1.up.size hW2.size))
          rw [if_pos rfl] at h9
          exact h9)).mono (fun e W' he => ⟨he.1, ?_⟩)
      obtain ⟨ys, hy⟩ := he.2
      exact ⟨ys, hy, fun h => by cases h⟩)
    i2 b2 w5 ⟨HKT.out, HKT2.out⟩ hi2)
  clear hpart
  have HFIN : Hid (∀ W', LsP (fun xs j b W => KT rb la lc S l tb rx (tb + 1) nm w3 xs j b W ∧ (b = false → i + 1 ≤ j)) (if b2 = true then .bad i2 else pP (pT l n) l i2) W' → ∃ ys j bb, KT rb la lc S l tb rx (tb + 1) nm w3 ys j bb W' ∧ ∀ W'', Rd rb la lc S l W'' j bb → TmM rb la lc S l q (.mk nm nul ys) W'') := Lib.hid (fun W' h => by
    cases b2 with
    | true =>
      obtain ⟨e1, e2, e3⟩ := HBAD.out rfl
      rw [if_pos rfl] at h
      obtain ⟨ys, hy, _⟩ := h
      refine ⟨ys, i2, true, hy, fun W'' hr => ?_⟩
      unfold TmM
      rw [e2]
      rw [e1] at hr
      exact hr
    | false =>
      obtain ⟨hi2e, hbf, hk1, hnm⟩ := HGOOD.out rfl
      rw [if_neg (by decide)] at h
      have HQ2 : q = match pP (pT l n) l (i + 1) with | .bad j => .bad j | .ok L j => .ok (.mk (tk l i).text nul L) j := by
        rw [← HQ.out, if_neg (by rw [hbf]; decide), pT, if_neg (by rw [hk1]; simp), ← hi2e, if_neg (by rw [HC2.out rfl]; decide)]
        cases pP (pT l n) l i2 <;> rfl
      rw [hi2e] at h
      cases hp : pP (pT l n) l (i + 1) with
      | ok L j =>
        rw [hp] at h HQ2
        refine ⟨L, j, false, h.1, fun W'' hr => ?_⟩
        unfold TmM
        rw [HQ2]
        exact ⟨by rw [hnm], hr⟩
      | bad j =>
        rw [hp] at h HQ2
        obtain ⟨ys, hy, _⟩ := h
        refine ⟨ys, j, true, hy, fun W'' hr => ?_⟩
        unfold TmM
        rw [HQ2]
        exact hr)
  obtain ⟨Q, hQ⟩ : ∃ Q, (if b2 = true then PR.bad i2 else pP (pT l n) l i2) = Q := ⟨_, rfl⟩
  rw [hQ] at HLIST HFIN
  clear hQ HC HC2 HBAD HGOOD HKT HKT2
  go_wp2_with fail
  refine HLIST.out.mono ?_
  rintro e w7 ⟨rfl, hP⟩
  obtain ⟨ys, j, bb, hk7, hm7⟩ := HFIN.out w7 hP
  obtain ⟨lv, us, Bk, htb7, hcp7⟩ := hk7.tbx
  obtain ⟨ya, yc, hlv⟩ := own_shape hcp7.own
  subst hlv
  have HT7 := Lib.hid htb7
  have HK7 := Lib.hid hk7
  have HM7 := Lib.hid hm7
  have HTO := Lib.hid hcp7.fin
  have HZ7 : Hid (w7.heap[(rx + 1)]? = some (.cells #[.string ⟨#[]⟩, .string ⟨#[]⟩, .slice none 0 0] 24 (0, 0))) := Lib.hid (HK7.out.up.heap HZ3.out (fun e => by rcases e with e | e <;> omega))
  have hs7 := HK7.out.up.size
  clear hP htb7 hcp7 hk7 hm7 HLIST HFIN x0
  have t0 := cellRow HT7.out 0 (.string nm) rfl
  have t1 := cellRow HT7.out 1 (.string nul) rfl
  have t2 := cellRow HT7.out 2 (.slice ya ys.length yc) rfl
  have z0 := cellRow HZ7.out 0 (.string ⟨#[]⟩) rfl
  have z1 := cellRow HZ7.out 1 (.string ⟨#[]⟩) rfl
  have z2 := cellRow HZ7.out 2 (.slice none 0 0) rfl
  have fz := fun j => frozenRow HZ7.out j
  go_wp2_with fail
  have hr3 := st3_heap HZ7.out (.string nm) (.string nul) (.slice ya ys.length yc)
  have hu3 := st3_upd' w7 (rx + 1) (.string nm) (.string nul) (.slice ya ys.length yc)
  have e0 := cellRow hr3 0 _ rfl
  have e1 := cellRow hr3 1 _ rfl
  have e2 := cellRow hr3 2 _ rfl
  refine bodyPost_ret (v := .agg #[.string nm, .string nul, .slice ya ys.length yc]) (by simp [results, Tryz.results77, go_sem, e0, e1, e2]) rfl ?_
  have hup : Upd (fun k => k = rb) w _ := ((((HE0.out.mono (fun _ _ h => h.elim)).trans HU3.out)).trans' HK7.out.up (fun j hj e => by
    rcases e with e | e
    · exact e
    · omega)).trans' hu3 (fun j hj e => by omega)
  have hrd := HK7.out.rd.keep hu3 (by omega) (fun k hk e => by have := HSS.out k hk; omega)
  have hto := HTO.out.kept hu3 (fun k hk e => by have := hk.1; omega)
  have hs9 := hu3.size
  exact ⟨.mk nm nul ys, .slice ya ys.length yc, _, rfl, hto, fun k hk => ⟨by have := hk.1; omega, by have := hk.2; omega⟩, hup, HM7.out _ hrd⟩

end Go.Proofs.YtjjaknmnhhfjeaaGreatDoor
