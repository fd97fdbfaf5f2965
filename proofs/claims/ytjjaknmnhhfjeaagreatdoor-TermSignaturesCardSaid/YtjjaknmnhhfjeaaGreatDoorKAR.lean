/- The texts Y9, one behind the other. -/
import Derived.Test.YtjjaknmnhhfjeaaGreatDoorKAQ
import Derived.Test.YtjjaknmnhhfjeaaGreatDoorKAF
/- Tokens of the program. -/
namespace Go.Proofs.YtjjaknmnhhfjeaaGreatDoor
open Go.RowKit Go.Hw Go
set_option linter.unusedVariables false
set_option linter.unusedSimpArgs false

open Tm
theorem st2_heap {W : World} {z : Nat} {t : TypeId} {v0 v1 : Value} (h : W.heap[z]? = some (.cells #[v0, v1] t (0, 0))) (u0 u1 : Value) : ((W.setCell ⟨z, 0, none⟩ u0).setCell ⟨z, 1, none⟩ u1).heap[z]? = some (.cells #[u0, u1] t (0, 0)) := by
  have := setBlock (setBlock h 0 u0) 1 u1
  simpa using this
theorem st2_upd (W : World) (z : Nat) (u0 u1 : Value) : Upd (fun k => k = z) W ((W.setCell ⟨z, 0, none⟩ u0).setCell ⟨z, 1, none⟩ u1) :=
  ((Upd.refl (fun k => k = z) W).setCell (p := ⟨z, 0, none⟩) (.inl rfl) u0).setCell (p := ⟨z, 1, none⟩) (.inl rfl) u1
theorem infoTk : (Tryz.prog.info? 114).map (fun i => (i.zero, i.size, i.bytes)) = some (some (.agg #[.int .i64 0, .string ⟨#[]⟩, .int .i64 0, .int .i64 0, .int .i64 0]), 5, 48) := by kernel_rfl
theorem news5 (W : World) (u0 u1 u2 u3 u4 : Value) : ∀ (j : Nat) (u : Value), [u0, u1, u2, u3, u4][j]? = some u → (W.alloc (.cells #[u0, u1, u2, u3, u4] 114)).cell? ((⟨W.heap.size, 0, none⟩ : Addr).add j) = some u := fun j u hj => by
  match j, hj with
  | 0, hj => simp at hj; subst hj; simp only [Addr.add]; exact cellRow (alloc0 _ _) 0 _ rfl
  | 1, hj => simp at hj; subst hj; simp only [Addr.add]; exact cellRow (alloc0 _ _) 1 _ rfl
  | 2, hj => simp at hj; subst hj; simp only [Addr.add]; exact cellRow (alloc0 _ _) 2 _ rfl
  | 3, hj => simp at hj; subst hj; simp only [Addr.add]; exact cellRow (alloc0 _ _) 3 _ rfl
  | 4, hj => simp at hj; subst hj; simp only [Addr.add]; exact cellRow (alloc0 _ _) 4 _ rfl
theorem one5 (a : Int) (b : ByteArray) (c d e : Int) : ∀ u ∈ [Value.int .i64 a, .string b, .int .i64 c, .int .i64 d, .int .i64 e], u.oneCell' = true := fun u hu => by
  simp at hu
  rcases hu with h | h | h | h | h <;> (subst h; rfl)
def skC (s : By) : Nat → Nat → Nat
  | 0, i => i
  | m + 1, i => if i < s.size ∧ byt s i ≠ 10 then skC s m (i + 1) else i
theorem skC_end {s : By} {m k : Nat} (hm : s.size - k ≤ m) (h : ¬ (k < s.size ∧ byt s k ≠ 10)) : skC s m k = k := by
  cases m with
  | zero => rfl
  | succ m => unfold skC; rw [if_neg h]
theorem skC_go {s : By} {m k : Nat} (hm : s.size - k ≤ m) (h : k < s.size ∧ byt s k ≠ 10) : ∃ m', skC s m k = skC s m' (k + 1) ∧ s.size - (k + 1) ≤ m' := by
  cases m with
  | zero => omega
  | succ m => exact ⟨m, by rw [skC, if_pos h], by omega⟩
theorem skC_le {s : By} : ∀ (m k : Nat), k ≤ s.size → k ≤ skC s m k ∧ skC s m k ≤ s.size
  | 0, k, h => ⟨Nat.le_refl _, h⟩
  | m + 1, k, h => by
    unfold skC
    split
    · rename_i h2
      have := skC_le (s := s) m (k + 1) (by omega)
      omega
    · exact ⟨Nat.le_refl _, h⟩
def wdE (s : By) : Nat → Nat → Nat
  | 0, i => i
  | m + 1, i => if i < s.size ∧ 2 ≤ clsN (byt s i) then wdE s m (i + 1) else i
theorem wdE_end {s : By} {m k : Nat} (hm : s.size - k ≤ m) (h : ¬ (k < s.size ∧ 2 ≤ clsN (byt s k))) : wdE s m k = k := by
  cases m with
  | zero => rfl
  | succ m => unfold wdE; rw [if_neg h]
theorem wdE_go {s : By} {m k : Nat} (hm : s.size - k ≤ m) (h : k < s.size ∧ 2 ≤ clsN (byt s k)) : ∃ m', wdE s m k = wdE s m' (k + 1) ∧ s.size - (k + 1) ≤ m' := by
  cases m with
  | zero => omega
  | succ m => exact ⟨m, by rw [wdE, if_pos h], by omega⟩
theorem wdE_le {s : By} : ∀ (m k : Nat), k ≤ s.size → k ≤ wdE s m k ∧ wdE s m k ≤ s.size
  | 0, k, h => ⟨Nat.le_refl _, h⟩
  | m + 1, k, h => by
    unfold wdE
    split
    · rename_i h2
      have := wdE_le (s := s) m (k + 1) (by omega)
      omega
    · exact ⟨Nat.le_refl _, h⟩
inductive TR where
  | full
  | ok (l : List Tok)
  | bad (ln col : Int)
def tkF (wd : By → Wd) (s : By) : Nat → Nat → Nat → Nat → List Tok → TR
  | 0, i, ln, bg, l => .ok (l ++ [⟨5, nul, 0, ln, (s.size : Int) - (bg : Int) + 1⟩])
  | n + 1, i, ln, bg, l => if ¬ i < s.size then .ok (l ++ [⟨5, nul, 0, ln, (s.size : Int) - (bg : Int) + 1⟩]) else
    if clsN (byt s i) = 1 then (if byt s i = 10 then tkF wd s n (i + 1) (ln + 1) (i + 1) l else tkF wd s n (i + 1) ln bg l) else
    if byt s i = 35 then tkF wd s n (skC s s.size i) ln bg l else
    if 2 ≤ clsN (byt s i) then (if (wd (s.extract i (wdE s s.size i))).ok = true then tkF wd s n (wdE s s.size i) ln bg (l ++ [⟨(wd (s.extract i (wdE s s.size i))).kind, (wd (s.extract i (wdE s s.size i))).text, (wd (s.extract i (wdE s s.size i))).n, ln, (i : Int) - (bg : Int) + 1⟩]) else .bad ln ((i : Int) - (bg : Int) + 1)) else
    if symF (s.extract i s.size) = [] then .bad ln ((i : Int) - (bg : Int) + 1) else tkF wd s n (i + (symF (s.extract i s.size)).length) ln bg (l ++ [⟨4, bs (symF (s.extract i s.size)), 0, ln, (i : Int) - (bg : Int) + 1⟩])
def tokF (wd : By → Wd) (s : By) : TR := if 65536 < s.size then .full else tkF wd s s.size 0 1 0 []
def TokP (n0 : Nat) (w' : World) (e : Ending) : TR → Prop
  | .full => e = .returned (.tuple #[.slice none 0 0, .agg #[.int .i64 0, .int .i64 0], .int .i64 4])
  | .bad ln col => e = .returned (.tuple #[.slice none 0 0, .agg #[.int .i64 ln, .int .i64 col], .int .i64 7])
  | .ok l => ∃ v, e = .returned (.tuple #[v, .agg #[.int .i64 0, .int .i64 0], .int .i64 0]) ∧ TkR (fun k => n0 ≤ k ∧ k < w'.heap.size) w' v l
theorem symF_len (t : By) : (symF t).length ≤ t.size := by
  have key : ∀ p : List UInt8, hpB t p = true → p.length ≤ t.size := fun p h => by
    have h2 : p <+: t.data.toList := List.isPrefixOf_iff_prefix.1 h
    exact h2.length_le
  unfold symF
  repeat' split
  all_goals first
    | (rename_i h; exact key _ h)
    | (rename_i h; simp only [List.length_cons, List.length_nil]; omega)
    | simp
set_option maxRecDepth 100000 in
set_option maxHeartbeats 8000000 in
theorem tokens_x (iF : By → Int × Bool) (s : By) (w : World) (htab : AscT w) (hwd : ∀ i k W, i < k → k ≤ s.size → (∀ j, i ≤ j → j < k → 2 ≤ clsN (byt s j)) → Ext w W → Calls Tryz.prog 99 #[.string (s.extract i k)] W fun e W' => WdR (wdF iF (s.extract i k)) e ∧ Ext W W') :
    Calls Tryz.prog 58 #[.string s] w fun e w' => TokP (w.heap.size + 1) w' e (tokF (wdF iF) s) ∧ Ext w w' := by
  have HWD := Lib.hid hwd
  have HE0 := Lib.hid ((Upd.refl (fun _ => False) w).alloc (.cells #[.int .i64 0, .int .i64 0] 45))
  have HP0 := Lib.hid (alloc0 w (.cells #[.int .i64 0, .int .i64 0] 45))
  have HSZ0 : Hid (w.heap.size + 1 ≤ (w.alloc (.cells #[.int .i64 0, .int .i64 0] 45)).heap.size) := Lib.hid (by simp)
  have HTF : Hid (tokF (wdF iF) s = if 65536 < s.size then .full else tkF (wdF iF) s s.size 0 1 0 []) := Lib.hid rfl
  obtain ⟨R, hR⟩ : ∃ R, tokF (wdF iF) s = R := ⟨_, rfl⟩
  rw [hR] at HTF ⊢
  obtain ⟨iT, hi, hz0, hz1, hz2⟩ := info_parts infoTk
  clear hR hwd htab
  have p0 := cellRow HP0.out 0 (.int .i64 0) rfl
  have p1 := cellRow HP0.out 1 (.int .i64 0) rfl
  have fp := fun j => frozenRow HP0.out j
  by_cases hbig : 65536 < s.size
  · have HV : Hid (R = .full) := Lib.hid (by rw [HTF.out, if_pos hbig])
    have z1 : (65536 : Int) < (s.size : Int) := by omega
    have z1' : decide ((65536 : Int) < (s.size : Int)) = true := decide_eq_true z1
    go_enter Tryz.func58, Tryz.ntmps58
    go_wp2_with fail
    refine bodyPost_ret (v := .tuple #[.slice none 0 0, .agg #[.int .i64 0, .int .i64 0], .int .i64 4]) (by simp [results, Tryz.results58, go_sem, p0, p1]) rfl ?_
    rw [HV.out]
    exact ⟨rfl, HE0.out⟩
  have z1 : ¬ (65536 : Int) < (s.size : Int) := by omega
  have z1' : decide ((65536 : Int) < (s.size : Int)) = false := decide_eq_false z1
  have HT0 : Hid (tkF (wdF iF) s s.size 0 1 0 [] = R) := Lib.hid (by rw [HTF.out, if_neg hbig])
  have HO0 : Hid ((w.alloc (.cells #[.int .i64 0, .int .i64 0] 45)).ownsRow (w.heap.size + 1) 114 5 (.slice none 0 0) 0 (tkCells [])) := Lib.hid ⟨rfl, .inl ⟨rfl, rfl⟩⟩
  clear HTF
  go_enter Tryz.func58, Tryz.ntmps58
  go_wp2_with fail
  clear z1 z1' p0 p1 fp
  generalize w.alloc (.cells #[.int .i64 0, .int .i64 0] 45) = w1 at *
  go_loopg [5, 6, 7, 8] s.size (fun gk x5 x6 x7 x8 wr => ∃ (n i ln bg : Nat) (l : List Tok) (la : Option Addr) (lc : Nat), x5 = .slice la l.length lc ∧ x6 = .int .i64 (ln : Int) ∧ x7 = .int .i64 (bg : Int) ∧ x8 = .int .i64 (i : Int) ∧ gk = s.size - i ∧ i ≤ s.size ∧ bg ≤ i ∧ ln ≤ i + 1 ∧ l.length ≤ i ∧ s.size - i ≤ n ∧ Hid (tkF (wdF iF) s n i ln bg l = R) ∧ Hid (wr.ownsRow (w.heap.size + 1) 114 5 (.slice la l.length lc) l.length (tkCells l)) ∧ Hid (wr.heap[w.heap.size]? = some (.cells #[.int .i64 0, .int .i64 0] 45 (0, 0))) ∧ Hid (Ext w wr) ∧ Hid (w.heap.size + 1 ≤ wr.heap.size))
  case atStart => exact ⟨s.size, 0, 1, 0, [], none, 0, rfl, rfl, rfl, rfl, rfl, Nat.zero_le _, Nat.le_refl _, by omega, Nat.le_refl _, by omega, HT0, HO0, HP0, HE0, HSZ0⟩
  case round =>
    clear HT0 HO0 HP0 HE0 HSZ0
    obtain ⟨n, i, ln, bg, l, la, lc, rfl, rfl, rfl, rfl, rfl, hi1, hbg, hln, hll, hn, HR, HO, HP, HE, HSZ⟩ := hrel
    have hsz := HSZ.out
    by_cases hlt : i < s.size
    case neg =>
      obtain rfl : i = s.size := by omega
      have HV : Hid (R = .ok (l ++ [⟨5, nul, 0, ln, (s.size : Int) - (bg : Int) + 1⟩])) := Lib.hid (by
        rw [← HR.out]
        cases n with
        | zero => rfl
        | succ n => rw [tkF, if_pos hlt])
      have w1w : IntKind.i64.wrap ((s.size : Int) - (bg : Int)) = (s.size : Int) - (bg : Int) := IntWalk.i64_in _ (by omega)
      have w2w : IntKind.i64.wrap ((s.size : Int) - (bg : Int) + 1) = (s.size : Int) - (bg : Int) + 1 := IntWalk.i64_in _ (by omega)
      have z2 : decide ((s.size : Int) < (s.size : Int)) = false := decide_eq_false (by omega)
      have HOA := Lib.hid (HO.out.alloc (.cells #[.int .i64 5, .string ⟨#[]⟩, .int .i64 0, .int .i64 (ln : Int), .int .i64 ((s.size : Int) - (bg : Int) + 1)] 114))
      clear HR hlt
      go_wp2_with (at_builtin; refine wpList_append_at _ rfl (.tmp 115) (.tmp 124) 98 rfl (w.heap.size + 1) 114 iT (.agg #[.int .i64 0, .string ⟨#[]⟩, .int .i64 0, .int .i64 0, .int .i64 0]) 5 48 Tryz.underlying98 hi hz0 hz1 hz2 rfl (by decide) _ _ _ rfl HOA.out ⟨wr.heap.size, 0, none⟩ 1 1 [Value.int .i64 5, .string ⟨#[]⟩, .int .i64 0, .int .i64 (ln : Int), .int .i64 ((s.size : Int) - (bg : Int) + 1)] rfl rfl ?c1a ?c2a ?c3a ?c4a ?c5a ?_)
      try (case c1a => exact news5 wr (.int .i64 5) (.string ⟨#[]⟩) (.int .i64 0) (.int .i64 (ln : Int)) (.int .i64 ((s.size : Int) - (bg : Int) + 1)))
      case c2a => first | exact one5 _ _ _ _ _ | exact ⟨rfl, rfl, rfl, rfl, rfl⟩
      case c3a => unfold maxLen; omega
      case c4a => omega
      case c5a => have := alloc_size wr (.cells #[.int .i64 5, .string ⟨#[]⟩, .int .i64 0, .int .i64 (ln : Int), .int .i64 ((s.size : Int) - (bg : Int) + 1)] 114); omega
      intro v' w7 hG
      obtain ⟨xa, xc, hxs⟩ := own_shape hG.own
      subst hxs
      have hb7 := hG.upd.heap (allocOld HP.out (.cells #[.int .i64 5, .string ⟨#[]⟩, .int .i64 0, .int .i64 (ln : Int), .int .i64 ((s.size : Int) - (bg : Int) + 1)] 114)) (fun e => by have := (HO.out.lt _ e).1; omega)
      have HE7 : Hid (Ext w w7) := Lib.hid ((HE.out.alloc (.cells #[.int .i64 5, .string ⟨#[]⟩, .int .i64 0, .int .i64 (ln : Int), .int .i64 ((s.size : Int) - (bg : Int) + 1)] 114)).trans' hG.upd (fun j hj e => by have := (HO.out.lt _ e).1; omega))
      have HG := Lib.hid hG
      have p0 := cellRow hb7 0 (.int .i64 0) rfl
      have p1 := cellRow hb7 1 (.int .i64 0) rfl
      have fp := fun j => frozenRow hb7 j
      have HB7 := Lib.hid hb7
      clear hG hb7 w1w w2w z2
      go_wp2_with fail
      have hr2 := st2_heap HB7.out (.int .i64 0) (.int .i64 0)
      have hu := st2_upd w7 w.heap.size (.int .i64 0) (.int .i64 0)
      have e0 := cellRow hr2 0 _ rfl
      have e1 := cellRow hr2 1 _ rfl
      refine bodyPost_ret (v := .tuple #[.slice xa (l.length + 1) xc, .agg #[.int .i64 0, .int .i64 0], .int .i64 0]) (by simp [results, Tryz.results58, go_sem, e0, e1]) rfl ?_
      have hue := HE7.out.trans' hu (fun j hj e => by omega)
      rw [HV.out]
      refine ⟨⟨_, rfl, ?_⟩, hue⟩
      have ho := own_kept HG.out.own hu (fun j hj e => by have := (HG.out.own.lt _ hj).1; omega)
      unfold TkR
      rw [tkCells_snoc, List.length_append]
      exact SlR.weaken (SlR.of_own ho) (fun j hj => ⟨(ho.lt j hj).1, (ho.lt j hj).2⟩)
    obtain ⟨m, rfl⟩ : ∃ m, n = m + 1 := ⟨n - 1, by omega⟩
    have hby : (s[i]'hlt).toNat = byt s i := by unfold byt; rw [at_list s i hlt]
    have hr := HR.out
    rw [tkF, if_neg (fun h => h hlt)] at hr
    obtain ⟨c, hc⟩ : ∃ c, byt s i = c := ⟨_, rfl⟩
    rw [hc] at hr hby
    have hc255 : c ≤ 255 := by rw [← hby]; have := (s[i]'hlt).toNat_lt; omega
    have i0' : (0 : Int) ≤ (i : Int) := by omega
    have i1' : (i : Int) < (s.size : Int) := by omega
    have z2 : decide ((i : Int) < (s.size : Int)) = true := decide_eq_true i1'
    have z2' : decide (i < s.size) = true := decide_eq_true hlt
    have w1w : IntKind.i64.wrap ((i : Int) - (bg : Int)) = (i : Int) - (bg : Int) := IntWalk.i64_in _ (by omega)
    have w2w : IntKind.i64.wrap ((i : Int) - (bg : Int) + 1) = (i : Int) - (bg : Int) + 1 := IntWalk.i64_in _ (by omega)
    have HQ := Lib.hid ((Upd.refl (fun _ => False) wr).alloc (.cells #[.int .i64 (ln : Int), .int .i64 ((i : Int) - (bg : Int) + 1)] 45))
    have HBP := Lib.hid (alloc0 wr (.cells #[.int .i64 (ln : Int), .int .i64 ((i : Int) - (bg : Int) + 1)] 45))
    have HOQ := Lib.hid (HO.out.alloc (.cells #[.int .i64 (ln : Int), .int .i64 ((i : Int) - (bg : Int) + 1)] 45))
    have HPQ := Lib.hid (allocOld HP.out (.cells #[.int .i64 (ln : Int), .int .i64 ((i : Int) - (bg : Int) + 1)] 45))
    have HEQ := Lib.hid (HE.out.trans HQ.out)
    have CLS := Lib.hid (class_x c (wr.alloc (.cells #[.int .i64 (ln : Int), .int .i64 ((i : Int) - (bg : Int) + 1)] 45)) hc255)
    have HR2 := Lib.hid hr
    have HCB := Lib.hid hc
    have hszq : w.heap.size + 1 ≤ (wr.alloc (.cells #[.int .i64 (ln : Int), .int .i64 ((i : Int) - (bg : Int) + 1)] 45)).heap.size := Nat.le_trans hsz HQ.out.size
    clear HR hr hc
    go_wp2_with fail
    generalize wr.alloc (.cells #[.int .i64 (ln : Int), .int .i64 ((i : Int) - (bg : Int) + 1)] 45) = wq at *
    obtain ⟨nb, hnb⟩ : ∃ nb, wr.heap.size = nb := ⟨_, rfl⟩
    try rw [hnb] at HBP
    try rw [hnb]
    have hnbw : w.heap.size + 1 ≤ nb := by omega
    clear hnb
    refine CLS.out.mono ?_
    rintro e w' ⟨rfl, rfl⟩
    obtain ⟨K, hK⟩ : ∃ K, clsN c = K := ⟨_, rfl⟩
    rw [hK] at HR2 ⊢
    clear CLS HO HP HE HSZ
    by_cases hK1 : K = 1
    · subst hK1
      by_cases h10 : c = 10
      · subst h10
        have HR3 := HR2.out
        rw [if_pos rfl, if_pos rfl] at HR3
        have HR3 := Lib.hid HR3
        clear HR2 hK
        go_wp2_with fail
        go_roundg (s.size - (i + 1))
        case measure => omega
        case rel => exact ⟨m, i + 1, ln + 1, i + 1, l, la, lc, rfl, by go_num, by go_num, by go_num, rfl, by omega, by omega, by omega, by omega, by omega, HR3, HOQ, HPQ, HEQ, Lib.hid hszq⟩
      · have HR3 := HR2.out
        rw [if_pos rfl, if_neg h10] at HR3
        have HR3 := Lib.hid HR3
        have t10 : ((c : Int) == 10) = false := beq_eq_false_iff_ne.2 (by omega)
        clear HR2 hK
        go_wp2_with fail
        go_roundg (s.size - (i + 1))
        case measure => omega
        case rel => exact ⟨m, i + 1, ln, bg, l, la, lc, rfl, rfl, rfl, by go_num, rfl, by omega, by omega, by omega, by omega, by omega, HR3, HOQ, HPQ, HEQ, Lib.hid hszq⟩
    have HR3 := HR2.out
    rw [if_neg hK1] at HR3
    have u1 : ((K : Int) == 1) = false := beq_eq_false_iff_ne.2 (by omega)
    by_cases h35 : c = 35
    · subst h35
      rw [if_pos rfl] at HR3
      have HR4 := Lib.hid HR3
      obtain ⟨E, hE⟩ : ∃ E, skC s s.size i = E := ⟨_, rfl⟩
      rw [hE] at HR4
      have hEi : i < E := by
        obtain ⟨m', h1, h2⟩ := skC_go (s := s) (m := s.size) (k := i) (by omega) ⟨hlt, by rw [HCB.out]; decide⟩
        have h3 := (skC_le m' (i + 1) (s := s) (by omega)).1
        omega
      have HE0 := Lib.hid hE
      clear HR2 HR3 hK hE
      go_wp2_with fail
      clear u1 z2 z2' i0' i1' w1w w2w hby
      obtain ⟨wc, hwc⟩ : ∃ wc, wc = wq := ⟨_, rfl⟩
      rw [← hwc] at HOQ HPQ HEQ hszq
      have HWC : Hid (wc = wq) := Lib.hid hwc
      clear hwc
      go_loopg [8] (s.size - i) (fun gk iv wr => ∃ (k m' : Nat), iv = .int .i64 (k : Int) ∧ gk = s.size - k ∧ i ≤ k ∧ k ≤ s.size ∧ s.size - k ≤ m' ∧ Hid (skC s m' k = E) ∧ Hid (wc = wr))
      case atStart => exact ⟨i, s.size, rfl, rfl, Nat.le_refl _, by omega, by omega, HE0, HWC⟩
      case round =>
        clear HE0 HWC
        obtain ⟨k, m', rfl, rfl, hik, hks, hkm, HSK, HWC⟩ := hrel
        have hwc := HWC.out
        subst hwc
        by_cases hkt : k < s.size
        · have hbk : (s[k]'hkt).toNat = byt s k := by unfold byt; rw [at_list s k hkt]
          have j0' : (0 : Int) ≤ (k : Int) := by omega
          have j1' : (k : Int) < (s.size : Int) := by omega
          have y2 : decide ((k : Int) < (s.size : Int)) = true := decide_eq_true j1'
          by_cases hd : byt s k = 10
          · have hke : E = k := by rw [← HSK.out]; exact skC_end hkm (fun h => h.2 hd)
            rw [hd] at hbk
            subst hke
            clear HSK hd
            go_wp2_with fail
            go_roundg (s.size - E)
            case measure => omega
            case rel => exact ⟨m, E, ln, bg, l, la, lc, rfl, rfl, rfl, rfl, rfl, by omega, by omega, by omega, by omega, by omega, HR4, HOQ, HPQ, HEQ, Lib.hid hszq⟩
          · obtain ⟨m2, h1, h2⟩ := skC_go hkm ⟨hkt, hd⟩
            have HSK2 : Hid (skC s m2 (k + 1) = E) := Lib.hid (by rw [← h1]; exact HSK.out)
            obtain ⟨d, hdd⟩ : ∃ d, byt s k = d := ⟨_, rfl⟩
            rw [hdd] at hd hbk
            have t10 : ((d : Int) == 10) = false := beq_eq_false_iff_ne.2 (by omega)
            have t10' : ((d : Int) != 10) = true := bne_iff_ne.2 (by omega)
            clear HSK h1 hdd
            go_wp2_with fail
            go_roundg (s.size - (k + 1))
            case measure => omega
            case rel => exact ⟨k + 1, m2, by go_num, rfl, by omega, by omega, h2, HSK2, Lib.hid rfl⟩
        · obtain rfl : k = s.size := by omega
          have hke : E = s.size := by rw [← HSK.out]; exact skC_end hkm (fun h => hkt h.1)
          have y2 : decide ((s.size : Int) < (s.size : Int)) = false := decide_eq_false (by omega)
          subst hke
          clear HSK
          go_wp2_with fail
          go_roundg (s.size - s.size)
          case measure => omega
          case rel => exact ⟨m, s.size, ln, bg, l, la, lc, rfl, rfl, rfl, rfl, rfl, by omega, by omega, by omega, by omega, by omega, HR4, HOQ, HPQ, HEQ, Lib.hid hszq⟩
    rw [if_neg h35] at HR3
    have u35 : ((c : Int) == 35) = false := beq_eq_false_iff_ne.2 (by omega)
    by_cases hK2 : 2 ≤ K
    · rw [if_pos hK2] at HR3
      obtain ⟨E, hE⟩ : ∃ E, wdE s s.size i = E := ⟨_, rfl⟩
      rw [hE] at HR3
      have hEi : i < E ∧ E ≤ s.size := by
        obtain ⟨m', h1, h2⟩ := wdE_go (s := s) (m := s.size) (k := i) (by omega) ⟨hlt, by rw [HCB.out, hK]; exact hK2⟩
        have h3 := wdE_le m' (i + 1) (s := s) (by omega)
        omega
      have HR4 := Lib.hid HR3
      have HE0 := Lib.hid hE
      have u2 : decide ((2 : Int) ≤ (K : Int)) = true := decide_eq_true (by omega)
      have u2' : decide (2 ≤ K) = true := decide_eq_true hK2
      clear HR2 HR3 hK hE
      go_wp2_with fail
      clear u1 u2 u2' u35 z2 z2' w1w w2w hby
      obtain ⟨wc, hwc⟩ : ∃ wc, wc = wq := ⟨_, rfl⟩
      rw [← hwc] at HOQ HPQ HEQ hszq HBP
      have HWC : Hid (wc = wq) := Lib.hid hwc
      clear hwc
      go_loopg [11] (s.size - i) (fun gk iv wr => ∃ (k m' : Nat), iv = .int .i64 (k : Int) ∧ gk = s.size - k ∧ i ≤ k ∧ k ≤ s.size ∧ s.size - k ≤ m' ∧ Hid (wdE s m' k = E) ∧ Hid (∀ j, i ≤ j → j < k → 2 ≤ clsN (byt s j)) ∧ Hid (wc = wr))
      case atStart => exact ⟨i, s.size, rfl, rfl, Nat.le_refl _, by omega, by omega, HE0, Lib.hid (fun j h1 h2 => absurd h1 (by omega)), HWC⟩
      case round =>
        clear HE0 HWC
        obtain ⟨k, m', rfl, rfl, hik, hks, hkm, HSK, HAL, HWC⟩ := hrel
        have hwc := HWC.out
        subst hwc
        by_cases hgo : k < s.size ∧ 2 ≤ clsN (byt s k)
        · obtain ⟨hkt, hd⟩ := hgo
          have hbk : (s[k]'hkt).toNat = byt s k := by unfold byt; rw [at_list s k hkt]
          have j0' : (0 : Int) ≤ (k : Int) := by omega
          have j1' : (k : Int) < (s.size : Int) := by omega
          have y2 : decide ((k : Int) < (s.size : Int)) = true := decide_eq_true j1'
          obtain ⟨m2, h1, h2⟩ := wdE_go hkm ⟨hkt, hd⟩
          have HSK2 : Hid (wdE s m2 (k + 1) = E) := Lib.hid (by rw [← h1]; exact HSK.out)
          have HAL2 : Hid (∀ j, i ≤ j → j < k + 1 → 2 ≤ clsN (byt s j)) := Lib.hid (fun j h3 h4 => by
            rcases Nat.lt_succ_iff_lt_or_eq.1 h4 with h5 | h5
            · exact HAL.out j h3 h5
            · rw [h5]; exact hd)
          obtain ⟨d, hdd⟩ : ∃ d, byt s k = d := ⟨_, rfl⟩
          rw [hdd] at hd hbk
          have hd255 : d ≤ 255 := by rw [← hbk]; have := (s[k]'hkt).toNat_lt; omega
          have CD := Lib.hid (class_x d wc hd255)
          have y3 : decide ((2 : Int) ≤ ((clsN d : Nat) : Int)) = true := decide_eq_true (by omega)
          have y3' : decide (2 ≤ clsN d) = true := decide_eq_true hd
          generalize clsN d = Y at *
          clear HSK HAL h1 hdd hd
          go_wp2_with fail
          refine CD.out.mono ?_
          rintro e w' ⟨rfl, rfl⟩
          go_wp2_with fail
          go_roundg (s.size - (k + 1))
          case measure => omega
          case rel => exact ⟨k + 1, m2, by go_num, rfl, by omega, by omega, h2, HSK2, HAL2, Lib.hid rfl⟩
        · have hke : E = k := by rw [← HSK.out]; exact wdE_end hkm hgo
          subst hke
          have HW := Lib.hid (HWD.out i E wc hEi.1 hEi.2 HAL.out HEQ.out)
          have k0' : (0 : Int) ≤ (E : Int) := by omega
          have k1' : (i : Int) ≤ (E : Int) := by omega
          have k2' : (E : Int) ≤ (s.size : Int) := by omega
          obtain ⟨⟨qk, qt, qn, qo⟩, hq⟩ : ∃ q, wdF iF (s.extract i E) = q := ⟨_, rfl⟩
          rw [hq] at HW HR4
          dsimp only at HR4
          have HQ5 : ∀ w5, Ext wc w5 → Hid (Ext w (w5.alloc (.cells #[.int .i64 (qk : Int), .string qt, .int .i64 qn, .int .i64 0, .int .i64 0] 114))) := fun w5 h => Lib.hid ((HEQ.out.trans h).alloc _)
          have HWQ : Hid (∀ (P : Prop), (E < s.size → (2 ≤ clsN (byt s E)) = False) → P → P) := Lib.hid (fun P _ h => h)
          clear HSK hq HAL
          have HSTEP : ∀ (K0 : Prop), K0 → K0 := fun _ h => h
          by_cases hkt : E < s.size
          · have hbk : (s[E]'hkt).toNat = byt s E := by unfold byt; rw [at_list s E hkt]
            have j1' : (E : Int) < (s.size : Int) := by omega
            have y2 : decide ((E : Int) < (s.size : Int)) = true := decide_eq_true j1'
            obtain ⟨d, hdd⟩ : ∃ d, byt s E = d := ⟨_, rfl⟩
            rw [hdd] at hgo hbk
            have hd255 : d ≤ 255 := by rw [← hbk]; have := (s[E]'hkt).toNat_lt; omega
            have CD := Lib.hid (class_x d wc hd255)
            have hd : ¬ 2 ≤ clsN d := fun h => hgo ⟨hkt, h⟩
            have y3 : decide ((2 : Int) ≤ ((clsN d : Nat) : Int)) = false := decide_eq_false (by omega)
            have y3' : decide (2 ≤ clsN d) = false := decide_eq_false hd
            generalize clsN d = Y at *
            clear hdd hd hgo
            go_wp2_with fail
            refine CD.out.mono ?_
            rintro e w' ⟨rfl, rfl⟩
            clear CD hbk
            go_wp2_with fail
            refine HW.out.mono ?_
            rintro e w5 ⟨he, hw5⟩
            have he : e = _ := he
            subst he
            dsimp only
            have HB6 := Lib.hid (alloc0 w5 (.cells #[.int .i64 (qk : Int), .string qt, .int .i64 qn, .int .i64 0, .int .i64 0] 114))
            have HU6 := Lib.hid (hw5.alloc (.cells #[.int .i64 (qk : Int), .string qt, .int .i64 qn, .int .i64 0, .int .i64 0] 114))
            have hs5 := hw5.size
            have hs6 := alloc_size w5 (.cells #[.int .i64 (qk : Int), .string qt, .int .i64 qn, .int .i64 0, .int .i64 0] 114)
            cases qo
            · have HV : Hid (R = .bad (ln : Int) ((i : Int) - (bg : Int) + 1)) := Lib.hid (by rw [← HR4.out]; rfl)
              clear HR4 hw5
              go_upto_region 26 with fail
              generalize w5.alloc (.cells #[.int .i64 (qk : Int), .string qt, .int .i64 qn, .int .i64 0, .int .i64 0] 114) = w6 at *
              have HP4 := Lib.hid (HU6.out.heap HPQ.out (fun h => h))
              have HB4 := Lib.hid (HU6.out.heap HBP.out (fun h => h))
              have HE4 := Lib.hid (HEQ.out.trans HU6.out)
              have b0 := cellRow HB4.out 0 (.int .i64 (ln : Int)) rfl
              have b1 := cellRow HB4.out 1 (.int .i64 ((i : Int) - (bg : Int) + 1)) rfl
              have p0 := cellRow HP4.out 0 (.int .i64 0) rfl
              have p1 := cellRow HP4.out 1 (.int .i64 0) rfl
              have fp := fun j => frozenRow HP4.out j
              go_wp2_with fail
              go_region
              go_wp2_with fail
              have hr2 := st2_heap HP4.out (.int .i64 (ln : Int)) (.int .i64 ((i : Int) - (bg : Int) + 1))
              have hu := st2_upd w6 w.heap.size (.int .i64 (ln : Int)) (.int .i64 ((i : Int) - (bg : Int) + 1))
              have e0 := cellRow hr2 0 _ rfl
              have e1 := cellRow hr2 1 _ rfl
              refine bodyPost_ret (v := .tuple #[.slice none 0 0, .agg #[.int .i64 (ln : Int), .int .i64 ((i : Int) - (bg : Int) + 1)], .int .i64 7]) (by simp [results, Tryz.results58, go_sem, e0, e1]) rfl ?_
              have hue := HE4.out.trans' hu (fun j hj e => by omega)
              rw [HV.out]; exact ⟨rfl, hue.drew⟩
            · have HR5 : Hid (tkF (wdF iF) s m E ln bg (l ++ [⟨qk, qt, qn, ln, (i : Int) - (bg : Int) + 1⟩]) = R) := Lib.hid (by rw [← HR4.out]; rfl)
              clear HR4 hw5
              go_upto_region 28 with fail
              obtain ⟨nt, hnt⟩ : ∃ nt, w5.heap.size = nt := ⟨_, rfl⟩
              try rw [hnt] at HB6
              try rw [hnt]
              generalize w5.alloc (.cells #[.int .i64 (qk : Int), .string qt, .int .i64 qn, .int .i64 0, .int .i64 0] 114) = w6 at *
              have HP4 := Lib.hid (HU6.out.heap HPQ.out (fun h => h))
              have HB4 := Lib.hid (HU6.out.heap HBP.out (fun h => h))
              have HE4 := Lib.hid (HEQ.out.trans HU6.out)
              have HO4 := Lib.hid (own_kept HOQ.out HU6.out (fun _ _ h => h))
              have b0 := cellRow HB4.out 0 (.int .i64 (ln : Int)) rfl
              have b1 := cellRow HB4.out 1 (.int .i64 ((i : Int) - (bg : Int) + 1)) rfl
              have t0 := cellRow HB6.out 0 (.int .i64 (qk : Int)) rfl
              have t1 := cellRow HB6.out 1 (.string qt) rfl
              have t2 := cellRow HB6.out 2 (.int .i64 qn) rfl
              have t3 := cellRow HB6.out 3 (.int .i64 0) rfl
              have t4 := cellRow HB6.out 4 (.int .i64 0) rfl
              have ft := fun j => frozenRow HB6.out j
              go_upto_region 29 with fail
              have hbt := setBlock (setBlock HB6.out 3 (.int .i64 (ln : Int))) 4 (.int .i64 ((i : Int) - (bg : Int) + 1))
              have hut := ((Upd.refl (fun k => k = nt) w6).setCell (p := ⟨nt, 3, none⟩) (.inl rfl) (.int .i64 (ln : Int))).setCell (p := ⟨nt, 4, none⟩) (.inl rfl) (.int .i64 ((i : Int) - (bg : Int) + 1))
              have HBT : Hid (((w6.setCell ⟨nt, 3, none⟩ (.int .i64 (ln : Int))).setCell ⟨nt, 4, none⟩ (.int .i64 ((i : Int) - (bg : Int) + 1))).heap[nt]? = some (.cells #[.int .i64 (qk : Int), .string qt, .int .i64 qn, .int .i64 (ln : Int), .int .i64 ((i : Int) - (bg : Int) + 1)] 114 (0, 0))) := Lib.hid (by simpa using hbt)
              have HUT := Lib.hid hut
              generalize ((w6.setCell ⟨nt, 3, none⟩ (.int .i64 (ln : Int))).setCell ⟨nt, 4, none⟩ (.int .i64 ((i : Int) - (bg : Int) + 1))) = w8 at *
              have hs8 := hut.size
              have HP8 := Lib.hid (HUT.out.heap HP4.out (by omega))
              have HE8 := Lib.hid (HE4.out.trans' HUT.out (fun j hj e => by omega))
              have HO8 := Lib.hid (own_kept HO4.out HUT.out (fun j hj e => by have := (HOQ.out.lt j hj).2; omega))
              have HOA := Lib.hid (HO8.out.alloc (.cells #[.int .i64 (qk : Int), .string qt, .int .i64 qn, .int .i64 (ln : Int), .int .i64 ((i : Int) - (bg : Int) + 1)] 114))
              clear b0 b1 t0 t1 t2 t3 t4 ft hbt hut
              have t0 := cellRow HBT.out 0 (.int .i64 (qk : Int)) rfl
              have t1 := cellRow HBT.out 1 (.string qt) rfl
              have t2 := cellRow HBT.out 2 (.int .i64 qn) rfl
              have t3 := cellRow HBT.out 3 (.int .i64 (ln : Int)) rfl
              have t4 := cellRow HBT.out 4 (.int .i64 ((i : Int) - (bg : Int) + 1)) rfl
              go_wp2_with (at_builtin; refine wpList_append_at _ rfl (.tmp 110) (.tmp 112) 98 rfl (w.heap.size + 1) 114 iT (.agg #[.int .i64 0, .string ⟨#[]⟩, .int .i64 0, .int .i64 0, .int .i64 0]) 5 48 Tryz.underlying98 hi hz0 hz1 hz2 rfl (by decide) _ _ _ rfl HOA.out ⟨w8.heap.size, 0, none⟩ 1 1 [Value.int .i64 (qk : Int), .string qt, .int .i64 qn, .int .i64 (ln : Int), .int .i64 ((i : Int) - (bg : Int) + 1)] rfl rfl ?c1p ?c2p ?c3p ?c4p ?c5p ?_)
              try (case c1p => exact news5 w8 (.int .i64 (qk : Int)) (.string qt) (.int .i64 qn) (.int .i64 (ln : Int)) (.int .i64 ((i : Int) - (bg : Int) + 1)))
              case c2p => first | exact one5 _ _ _ _ _ | exact ⟨rfl, rfl, rfl, rfl, rfl⟩
              case c3p => unfold maxLen; omega
              case c4p => omega
              case c5p => have := alloc_size w8 (.cells #[.int .i64 (qk : Int), .string qt, .int .i64 qn, .int .i64 (ln : Int), .int .i64 ((i : Int) - (bg : Int) + 1)] 114); omega
              intro v' w7 hG
              obtain ⟨xa, xc, hxs⟩ := own_shape hG.own
              subst hxs
              have HP7 := Lib.hid (hG.upd.heap (allocOld HP8.out (.cells #[.int .i64 (qk : Int), .string qt, .int .i64 qn, .int .i64 (ln : Int), .int .i64 ((i : Int) - (bg : Int) + 1)] 114)) (fun e => by have := (HO8.out.lt _ e).1; omega))
              have HE7 : Hid (Ext w w7) := Lib.hid ((HE8.out.alloc (.cells #[.int .i64 (qk : Int), .string qt, .int .i64 qn, .int .i64 (ln : Int), .int .i64 ((i : Int) - (bg : Int) + 1)] 114)).trans' hG.upd (fun j hj e => by have := (HO8.out.lt _ e).1; omega))
              have HO7 : Hid (w7.ownsRow (w.heap.size + 1) 114 5 (.slice xa ((l ++ [(⟨qk, qt, qn, ln, (i : Int) - (bg : Int) + 1⟩ : Tok)]).length) xc) (l ++ [(⟨qk, qt, qn, ln, (i : Int) - (bg : Int) + 1⟩ : Tok)]).length (tkCells (l ++ [⟨qk, qt, qn, ln, (i : Int) - (bg : Int) + 1⟩]))) := Lib.hid (by rw [tkCells_snoc, List.length_append]; exact hG.own)
              have hs7 := hG.upd.size
              have hs7' := alloc_size w8 (.cells #[.int .i64 (qk : Int), .string qt, .int .i64 qn, .int .i64 (ln : Int), .int .i64 ((i : Int) - (bg : Int) + 1)] 114)
              clear hG t0 t1 t2 t3 t4
              go_wp2_with fail
              go_roundg (s.size - E)
              case measure => omega
              case rel => exact ⟨m, E, ln, bg, _, xa, xc, by simp, rfl, rfl, rfl, rfl, by omega, by omega, by omega, by simp; omega, by omega, HR5, HO7, HP7, HE7, Lib.hid (by omega)⟩
          · have y2 : decide ((E : Int) < (s.size : Int)) = false := decide_eq_false (by omega)
            clear hgo
            go_wp2_with fail
            refine HW.out.mono ?_
            rintro e w5 ⟨he, hw5⟩
            have he : e = _ := he
            subst he
            dsimp only
            have HB6 := Lib.hid (alloc0 w5 (.cells #[.int .i64 (qk : Int), .string qt, .int .i64 qn, .int .i64 0, .int .i64 0] 114))
            have HU6 := Lib.hid (hw5.alloc (.cells #[.int .i64 (qk : Int), .string qt, .int .i64 qn, .int .i64 0, .int .i64 0] 114))
            have hs5 := hw5.size
            have hs6 := alloc_size w5 (.cells #[.int .i64 (qk : Int), .string qt, .int .i64 qn, .int .i64 0, .int .i64 0] 114)
            cases qo
            · have HV : Hid (R = .bad (ln : Int) ((i : Int) - (bg : Int) + 1)) := Lib.hid (by rw [← HR4.out]; rfl)
              clear HR4 hw5
              go_upto_region 26 with fail
              generalize w5.alloc (.cells #[.int .i64 (qk : Int), .string qt, .int .i64 qn, .int .i64 0, .int .i64 0] 114) = w6 at *
              have HP4 := Lib.hid (HU6.out.heap HPQ.out (fun h => h))
              have HB4 := Lib.hid (HU6.out.heap HBP.out (fun h => h))
              have HE4 := Lib.hid (HEQ.out.trans HU6.out)
              have b0 := cellRow HB4.out 0 (.int .i64 (ln : Int)) rfl
              have b1 := cellRow HB4.out 1 (.int .i64 ((i : Int) - (bg : Int) + 1)) rfl
              have p0 := cellRow HP4.out 0 (.int .i64 0) rfl
              have p1 := cellRow HP4.out 1 (.int .i64 0) rfl
              have fp := fun j => frozenRow HP4.out j
              go_wp2_with fail
              go_region
              go_wp2_with fail
              have hr2 := st2_heap HP4.out (.int .i64 (ln : Int)) (.int .i64 ((i : Int) - (bg : Int) + 1))
              have hu := st2_upd w6 w.heap.size (.int .i64 (ln : Int)) (.int .i64 ((i : Int) - (bg : Int) + 1))
              have e0 := cellRow hr2 0 _ rfl
              have e1 := cellRow hr2 1 _ rfl
              refine bodyPost_ret (v := .tuple #[.slice none 0 0, .agg #[.int .i64 (ln : Int), .int .i64 ((i : Int) - (bg : Int) + 1)], .int .i64 7]) (by simp [results, Tryz.results58, go_sem, e0, e1]) rfl ?_
              have hue := HE4.out.trans' hu (fun j hj e => by omega)
              rw [HV.out]; exact ⟨rfl, hue.drew⟩
            · have HR5 : Hid (tkF (wdF iF) s m E ln bg (l ++ [⟨qk, qt, qn, ln, (i : Int) - (bg : Int) + 1⟩]) = R) := Lib.hid (by rw [← HR4.out]; rfl)
              clear HR4 hw5
              go_upto_region 28 with fail
              obtain ⟨nt, hnt⟩ : ∃ nt, w5.heap.size = nt := ⟨_, rfl⟩
              try rw [hnt] at HB6
              try rw [hnt]
              generalize w5.alloc (.cells #[.int .i64 (qk : Int), .string qt, .int .i64 qn, .int .i64 0, .int .i64 0] 114) = w6 at *
              have HP4 := Lib.hid (HU6.out.heap HPQ.out (fun h => h))
              have HB4 := Lib.hid (HU6.out.heap HBP.out (fun h => h))
              have HE4 := Lib.hid (HEQ.out.trans HU6.out)
              have HO4 := Lib.hid (own_kept HOQ.out HU6.out (fun _ _ h => h))
              have b0 := cellRow HB4.out 0 (.int .i64 (ln : Int)) rfl
              have b1 := cellRow HB4.out 1 (.int .i64 ((i : Int) - (bg : Int) + 1)) rfl
              have t0 := cellRow HB6.out 0 (.int .i64 (qk : Int)) rfl
              have t1 := cellRow HB6.out 1 (.string qt) rfl
              have t2 := cellRow HB6.out 2 (.int .i64 qn) rfl
              have t3 := cellRow HB6.out 3 (.int .i64 0) rfl
              have t4 := cellRow HB6.out 4 (.int .i64 0) rfl
              have ft := fun j => frozenRow HB6.out j
              go_upto_region 29 with fail
              have hbt := setBlock (setBlock HB6.out 3 (.int .i64 (ln : Int))) 4 (.int .i64 ((i : Int) - (bg : Int) + 1))
              have hut := ((Upd.refl (fun k => k = nt) w6).setCell (p := ⟨nt, 3, none⟩) (.inl rfl) (.int .i64 (ln : Int))).setCell (p := ⟨nt, 4, none⟩) (.inl rfl) (.int .i64 ((i : Int) - (bg : Int) + 1))
              have HBT : Hid (((w6.setCell ⟨nt, 3, none⟩ (.int .i64 (ln : Int))).setCell ⟨nt, 4, none⟩ (.int .i64 ((i : Int) - (bg : Int) + 1))).heap[nt]? = some (.cells #[.int .i64 (qk : Int), .string qt, .int .i64 qn, .int .i64 (ln : Int), .int .i64 ((i : Int) - (bg : Int) + 1)] 114 (0, 0))) := Lib.hid (by simpa using hbt)
              have HUT := Lib.hid hut
              generalize ((w6.setCell ⟨nt, 3, none⟩ (.int .i64 (ln : Int))).setCell ⟨nt, 4, none⟩ (.int .i64 ((i : Int) - (bg : Int) + 1))) = w8 at *
              have hs8 := hut.size
              have HP8 := Lib.hid (HUT.out.heap HP4.out (by omega))
              have HE8 := Lib.hid (HE4.out.trans' HUT.out (fun j hj e => by omega))
              have HO8 := Lib.hid (own_kept HO4.out HUT.out (fun j hj e => by have := (HOQ.out.lt j hj).2; omega))
              have HOA := Lib.hid (HO8.out.alloc (.cells #[.int .i64 (qk : Int), .string qt, .int .i64 qn, .int .i64 (ln : Int), .int .i64 ((i : Int) - (bg : Int) + 1)] 114))
              clear b0 b1 t0 t1 t2 t3 t4 ft hbt hut
              have t0 := cellRow HBT.out 0 (.int .i64 (qk : Int)) rfl
              have t1 := cellRow HBT.out 1 (.string qt) rfl
              have t2 := cellRow HBT.out 2 (.int .i64 qn) rfl
              have t3 := cellRow HBT.out 3 (.int .i64 (ln : Int)) rfl
              have t4 := cellRow HBT.out 4 (.int .i64 ((i : Int) - (bg : Int) + 1)) rfl
              go_wp2_with (at_builtin; refine wpList_append_at _ rfl (.tmp 110) (.tmp 112) 98 rfl (w.heap.size + 1) 114 iT (.agg #[.int .i64 0, .string ⟨#[]⟩, .int .i64 0, .int .i64 0, .int .i64 0]) 5 48 Tryz.underlying98 hi hz0 hz1 hz2 rfl (by decide) _ _ _ rfl HOA.out ⟨w8.heap.size, 0, none⟩ 1 1 [Value.int .i64 (qk : Int), .string qt, .int .i64 qn, .int .i64 (ln : Int), .int .i64 ((i : Int) - (bg : Int) + 1)] rfl rfl ?c1q ?c2q ?c3q ?c4q ?c5q ?_)
              try (case c1q => exact news5 w8 (.int .i64 (qk : Int)) (.string qt) (.int .i64 qn) (.int .i64 (ln : Int)) (.int .i64 ((i : Int) - (bg : Int) + 1)))
              case c2q => first | exact one5 _ _ _ _ _ | exact ⟨rfl, rfl, rfl, rfl, rfl⟩
              case c3q => unfold maxLen; omega
              case c4q => omega
              case c5q => have := alloc_size w8 (.cells #[.int .i64 (qk : Int), .string qt, .int .i64 qn, .int .i64 (ln : Int), .int .i64 ((i : Int) - (bg : Int) + 1)] 114); omega
              intro v' w7 hG
              obtain ⟨xa, xc, hxs⟩ := own_shape hG.own
              subst hxs
              have HP7 := Lib.hid (hG.upd.heap (allocOld HP8.out (.cells #[.int .i64 (qk : Int), .string qt, .int .i64 qn, .int .i64 (ln : Int), .int .i64 ((i : Int) - (bg : Int) + 1)] 114)) (fun e => by have := (HO8.out.lt _ e).1; omega))
              have HE7 : Hid (Ext w w7) := Lib.hid ((HE8.out.alloc (.cells #[.int .i64 (qk : Int), .string qt, .int .i64 qn, .int .i64 (ln : Int), .int .i64 ((i : Int) - (bg : Int) + 1)] 114)).trans' hG.upd (fun j hj e => by have := (HO8.out.lt _ e).1; omega))
              have HO7 : Hid (w7.ownsRow (w.heap.size + 1) 114 5 (.slice xa ((l ++ [(⟨qk, qt, qn, ln, (i : Int) - (bg : Int) + 1⟩ : Tok)]).length) xc) (l ++ [(⟨qk, qt, qn, ln, (i : Int) - (bg : Int) + 1⟩ : Tok)]).length (tkCells (l ++ [⟨qk, qt, qn, ln, (i : Int) - (bg : Int) + 1⟩]))) := Lib.hid (by rw [tkCells_snoc, List.length_append]; exact hG.own)
              have hs7 := hG.upd.size
              have hs7' := alloc_size w8 (.cells #[.int .i64 (qk : Int), .string qt, .int .i64 qn, .int .i64 (ln : Int), .int .i64 ((i : Int) - (bg : Int) + 1)] 114)
              clear hG t0 t1 t2 t3 t4
              go_wp2_with fail
              go_roundg (s.size - E)
              case measure => omega
              case rel => exact ⟨m, E, ln, bg, _, xa, xc, by simp, rfl, rfl, rfl, rfl, by omega, by omega, by omega, by simp; omega, by omega, HR5, HO7, HP7, HE7, Lib.hid (by omega)⟩
    rw [if_neg hK2] at HR3
    have u2 : decide ((2 : Int) ≤ (K : Int)) = false := decide_eq_false (by omega)
    have u2' : decide (2 ≤ K) = false := decide_eq_false hK2
    have HR4 := Lib.hid HR3
    have HSY := Lib.hid (symbol_x (s.extract i s.size) wq)
    have hyl := symF_len (s.extract i s.size)
    have hes : (s.extract i s.size).size = s.size - i := by rw [ByteArray.size_extract]; omega
    obtain ⟨y, hy⟩ : ∃ y, symF (s.extract i s.size) = y := ⟨_, rfl⟩
    rw [hy] at HR4 HSY hyl
    have hyl2 : i + y.length ≤ s.size := by omega
    have hbsz := bs_size y
    have k1' : (i : Int) ≤ (s.size : Int) := by omega
    have k2' : (s.size : Int) ≤ (s.size : Int) := Int.le_refl _
    clear HR2 HR3 hK hy hyl hes HCB
    by_cases hy0 : y = []
    · subst hy0
      have HV : Hid (R = .bad (ln : Int) ((i : Int) - (bg : Int) + 1)) := Lib.hid (by rw [← HR4.out, if_pos rfl])
      go_wp2_with fail
      refine HSY.out.mono ?_
      rintro e w4 ⟨rfl, hw4⟩
      have HP4 := Lib.hid (hw4.heap HPQ.out (fun h => h))
      have HB4 := Lib.hid (hw4.heap HBP.out (fun h => h))
      have HE4 := Lib.hid (HEQ.out.trans hw4)
      rw [bs_nil]
      clear hw4 HSY u1 u2 u2' u35 z2 z2' w1w w2w i0' i1' hbsz
      have b0 := cellRow HB4.out 0 (.int .i64 (ln : Int)) rfl
      have b1 := cellRow HB4.out 1 (.int .i64 ((i : Int) - (bg : Int) + 1)) rfl
      have p0 := cellRow HP4.out 0 (.int .i64 0) rfl
      have p1 := cellRow HP4.out 1 (.int .i64 0) rfl
      have fp := fun j => frozenRow HP4.out j
      go_wp2_with fail
      go_region
      go_wp2_with fail
      have hr2 := st2_heap HP4.out (.int .i64 (ln : Int)) (.int .i64 ((i : Int) - (bg : Int) + 1))
      have hu := st2_upd w4 w.heap.size (.int .i64 (ln : Int)) (.int .i64 ((i : Int) - (bg : Int) + 1))
      have e0 := cellRow hr2 0 _ rfl
      have e1 := cellRow hr2 1 _ rfl
      refine bodyPost_ret (v := .tuple #[.slice none 0 0, .agg #[.int .i64 (ln : Int), .int .i64 ((i : Int) - (bg : Int) + 1)], .int .i64 7]) (by simp [results, Tryz.results58, go_sem, e0, e1]) rfl ?_
      have hue := HE4.out.trans' hu (fun j hj e => by omega)
      rw [HV.out]; exact ⟨rfl, hue.drew⟩
    have HR5 := HR4.out
    rw [if_neg hy0] at HR5
    have HR5 := Lib.hid HR5
    have hyp : 0 < y.length := by
      cases y with
      | nil => exact absurd rfl hy0
      | cons a y => simp
    obtain ⟨z1, z2x, z3, z4⟩ := nonempty_t (bs y) (by omega)
    clear HR4 hy0
    go_wp2_with fail
    refine HSY.out.mono ?_
    rintro e w4 ⟨rfl, hw4⟩
    have HP4 := Lib.hid (hw4.heap HPQ.out (fun h => h))
    have HB4 := Lib.hid (hw4.heap HBP.out (fun h => h))
    have HE4 := Lib.hid (HEQ.out.trans hw4)
    have HO4 := Lib.hid (own_kept HOQ.out hw4 (fun _ _ h => h))
    have hs4 := hw4.size
    have HOA := Lib.hid (HO4.out.alloc (.cells #[.int .i64 4, .string (bs y), .int .i64 0, .int .i64 (ln : Int), .int .i64 ((i : Int) - (bg : Int) + 1)] 114))
    clear hw4 HSY u1 u2 u2' u35 z2 z2' w1w w2w i0' i1'
    have b0 := cellRow HB4.out 0 (.int .i64 (ln : Int)) rfl
    have b1 := cellRow HB4.out 1 (.int .i64 ((i : Int) - (bg : Int) + 1)) rfl
    go_wp2_with (at_builtin; refine wpList_append_at _ rfl (.tmp 40) (.tmp 44) 98 rfl (w.heap.size + 1) 114 iT (.agg #[.int .i64 0, .string ⟨#[]⟩, .int .i64 0, .int .i64 0, .int .i64 0]) 5 48 Tryz.underlying98 hi hz0 hz1 hz2 rfl (by decide) _ _ _ rfl HOA.out ⟨w4.heap.size, 0, none⟩ 1 1 [Value.int .i64 4, .string (bs y), .int .i64 0, .int .i64 (ln : Int), .int .i64 ((i : Int) - (bg : Int) + 1)] rfl rfl ?c1y ?c2y ?c3y ?c4y ?c5y ?_)
    try (case c1y => exact news5 w4 (.int .i64 4) (.string (bs y)) (.int .i64 0) (.int .i64 (ln : Int)) (.int .i64 ((i : Int) - (bg : Int) + 1)))
    case c2y => first | exact one5 _ _ _ _ _ | exact ⟨rfl, rfl, rfl, rfl, rfl⟩
    case c3y => unfold maxLen; omega
    case c4y => omega
    case c5y => have := alloc_size w4 (.cells #[.int .i64 4, .string (bs y), .int .i64 0, .int .i64 (ln : Int), .int .i64 ((i : Int) - (bg : Int) + 1)] 114); omega
    intro v' w7 hG
    obtain ⟨xa, xc, hxs⟩ := own_shape hG.own
    subst hxs
    have HP7 := Lib.hid (hG.upd.heap (allocOld HP4.out (.cells #[.int .i64 4, .string (bs y), .int .i64 0, .int .i64 (ln : Int), .int .i64 ((i : Int) - (bg : Int) + 1)] 114)) (fun e => by have := (HO4.out.lt _ e).1; omega))
    have HE7 : Hid (Ext w w7) := Lib.hid ((HE4.out.alloc (.cells #[.int .i64 4, .string (bs y), .int .i64 0, .int .i64 (ln : Int), .int .i64 ((i : Int) - (bg : Int) + 1)] 114)).trans' hG.upd (fun j hj e => by have := (HO4.out.lt _ e).1; omega))
    have HO7 : Hid (w7.ownsRow (w.heap.size + 1) 114 5 (.slice xa ((l ++ [(⟨4, bs y, 0, ln, (i : Int) - (bg : Int) + 1⟩ : Tok)]).length) xc) (l ++ [(⟨4, bs y, 0, ln, (i : Int) - (bg : Int) + 1⟩ : Tok)]).length (tkCells (l ++ [⟨4, bs y, 0, ln, (i : Int) - (bg : Int) + 1⟩]))) := Lib.hid (by rw [tkCells_snoc, List.length_append]; exact hG.own)
    have hs7 := hG.upd.size
    have hs7' := alloc_size w4 (.cells #[.int .i64 4, .string (bs y), .int .i64 0, .int .i64 (ln : Int), .int .i64 ((i : Int) - (bg : Int) + 1)] 114)
    clear hG b0 b1 z1 z2x z3 z4
    go_wp2_with fail
    go_roundg (s.size - (i + y.length))
    case measure => omega
    case rel => exact ⟨m, i + y.length, ln, bg, _, xa, xc, by simp, rfl, rfl, by go_num, rfl, by omega, by omega, by omega, by simp; omega, by omega, HR5, HO7, HP7, HE7, Lib.hid (by omega)⟩

end Go.Proofs.YtjjaknmnhhfjeaaGreatDoor
