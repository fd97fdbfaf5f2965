/- The texts of operations read back. -/
import Derived.Test.YthpekfpeoglbgaaGreatDoorT1
import Derived.Lib.AtoiAllCases
import Derived.Lib.IndexMore
import Derived.Lib.IndexBytes
import Derived.Lib.Split
import Derived.Lib.SplitLaws
import Derived.Lib.CountLaws
import Derived.Lib.SlicesS
namespace Go.Proofs.YthpekfpeoglbgaaGreatDoor
open Go.RowKit Go.Hw
set_option linter.unusedVariables false
set_option linter.unusedSimpArgs false

/-! ### numerals -/
def dgB (c : UInt8) : Bool := decide (48 ≤ c.toNat ∧ c.toNat ≤ 57)
def valF (l : List UInt8) (n : Nat) : Nat := l.foldl (fun v c => 10 * v + (c.toNat - 48)) n
theorem valF_cons (c : UInt8) (l : List UInt8) (n : Nat) : valF (c :: l) n = valF l (10 * n + (c.toNat - 48)) := by
  unfold valF
  rw [List.foldl_cons]
theorem valF_ge : ∀ (l : List UInt8) (a : Nat), a ≤ valF l a
  | [], a => Nat.le_refl _
  | c :: t, a => by rw [valF_cons]; exact Nat.le_trans (by omega) (valF_ge t (10 * a + (c.toNat - 48)))
theorem dg_nat (k : Nat) (h : k ≤ 9) : (UInt8.ofNat (48 + k)).toNat = 48 + k := by
  rw [UInt8.toNat_ofNat']
  omega
theorem dec_dig : ∀ (m : Nat), (∀ c ∈ Lib.decDigits m, dgB c = true) ∧ valF (Lib.decDigits m) 0 = m := by
  intro m
  induction m using Nat.strongRecOn with
  | _ m ih =>
    rw [Lib.decDigits]
    by_cases h : m < 10
    · rw [dif_pos h]
      have e := dg_nat m (by omega)
      refine ⟨fun c hc => ?_, ?_⟩
      · rw [List.mem_singleton] at hc
        subst hc
        unfold dgB
        rw [e]
        exact decide_eq_true (by omega)
      · unfold valF
        rw [List.foldl_cons, List.foldl_nil, e]
        omega
    · rw [dif_neg h]
      obtain ⟨i1, i2⟩ := ih (m / 10) (by omega)
      have e := dg_nat (m % 10) (by omega)
      refine ⟨fun c hc => ?_, ?_⟩
      · rw [List.mem_append, List.mem_singleton] at hc
        rcases hc with hc | hc
        · exact i1 c hc
        · subst hc
          unfold dgB
          rw [e]
          exact decide_eq_true (by omega)
      · unfold valF at i2 ⊢
        rw [List.foldl_append, i2, List.foldl_cons, List.foldl_nil, e]
        omega
theorem dec_ne (m : Nat) : Lib.decDigits m ≠ [] := by
  rw [Lib.decDigits]
  by_cases h : m < 10
  · rw [dif_pos h]; simp
  · rw [dif_neg h]; simp
theorem itoa_chr45 (n : Int) : ∀ c ∈ Lib.itoa n, c = 45 ∨ dgB c = true := by
  intro c hc
  unfold Lib.itoa at hc
  split at hc
  · rcases List.mem_cons.1 hc with h | h
    · exact Or.inl h
    · exact Or.inr ((dec_dig _).1 c h)
  · exact Or.inr ((dec_dig _).1 c hc)
theorem itoa_no (n : Int) : (32 : UInt8) ∉ Lib.itoa n ∧ (10 : UInt8) ∉ Lib.itoa n := by
  refine ⟨fun h => ?_, fun h => ?_⟩ <;> · rcases itoa_chr45 n _ h with h | h <;> exact absurd h (by decide)
theorem parse_dig : ∀ (l : List UInt8) (acc : Nat), (∀ c ∈ l, dgB c = true) → valF l acc < 1844674407370955162 → Lib.parseUint10 acc l = .ok (valF l acc)
  | [], acc, _, _ => rfl
  | c :: t, acc, hd, hb => by
    have h1 : dgB c = true := hd c (by simp)
    have e := valF_cons c t acc
    have h3 := valF_ge t (10 * acc + (c.toNat - 48))
    rw [e] at hb ⊢
    have ih := parse_dig t (acc * 10 + (c.toNat - 48)) (fun x hx => hd x (by simp [hx])) (by rw [Nat.mul_comm acc 10]; exact hb)
    unfold Lib.parseUint10
    have h4 : 48 ≤ c.toNat ∧ c.toNat ≤ 57 := by simpa [dgB] using h1
    rw [if_pos h4, if_neg (by omega), if_neg (by omega), ih, Nat.mul_comm acc 10]
theorem mag_dec (m : Nat) (h : m ≤ 1073741824) : Lib.parseMag (Lib.decDigits m) = .ok m := by
  obtain ⟨d1, d2⟩ := dec_dig m
  unfold Lib.parseMag
  rw [if_neg (dec_ne m), parse_dig _ _ d1 (by rw [d2]; omega), d2]
theorem atoi_itoa (n : Int) (h0 : -1073741824 ≤ n) (h1 : n ≤ 1073741824) : Lib.atoiAll (Lib.itoa n) = .ok n := by
  unfold Lib.itoa
  by_cases hn : n < 0
  · rw [if_pos hn]
    unfold Lib.atoiAll
    have e : (45 : UInt8).toNat = 45 := rfl
    have e3 : ¬ (9223372036854775808 < n.natAbs) := by omega
    simp only [e, e3, or_true, if_true, mag_dec n.natAbs (by omega), not_true_eq_false, false_and, if_false, true_and]
    congr 1; omega
  · rw [if_neg hn]
    obtain ⟨d1, _⟩ := dec_dig n.toNat
    have hm := mag_dec n.toNat (by omega)
    generalize Lib.decDigits n.toNat = l at d1 hm
    cases l with
    | nil => simp [Lib.parseMag] at hm
    | cons c r =>
      have h4 : 48 ≤ c.toNat ∧ c.toNat ≤ 57 := by simpa [dgB] using d1 c (by simp)
      unfold Lib.atoiAll
      have e1 : ¬ (c.toNat = 43) := by omega
      have e2 : ¬ (c.toNat = 45) := by omega
      have e3 : ¬ (9223372036854775808 ≤ n.toNat) := by omega
      simp only [e1, e2, e3, or_self, if_false, hm, false_and, not_false_eq_true, true_and, and_false]
      rw [Int.toNat_of_nonneg (by omega)]
/-! ### cutting at a byte -/
theorem byte_none (z : UInt8) : ∀ (l : List UInt8), z ∉ l → Lib.indexByte l z = -1
  | [], _ => rfl
  | b :: l, h => by
    unfold Lib.indexByte
    rw [byte_none z l (fun e => h (by simp [e]))]
    rw [if_neg (fun e => h (by simp [eq_of_beq e]))]
    rfl
theorem byte_at (z : UInt8) : ∀ (l r : List UInt8), z ∉ l → Lib.indexByte (l ++ z :: r) z = l.length
  | [], _, _ => by
    show Lib.indexByte (z :: _) z = 0
    unfold Lib.indexByte
    rw [if_pos (by simp)]
  | b :: l, r, h => by
    show Lib.indexByte (b :: (l ++ z :: r)) z = _
    unfold Lib.indexByte
    rw [byte_at z l r (fun e => h (by simp [e]))]
    rw [if_neg (fun e => h (by simp [eq_of_beq e])), if_neg (by simp)]
    simp
theorem cut_none (z : UInt8) (l : List UInt8) (h : z ∉ l) : Lib.cut l [z] = (l, [], false) := by
  unfold Lib.cut
  rw [Lib.index_one, byte_none z l h]
  rfl
theorem cut_at (z : UInt8) (l r : List UInt8) (h : z ∉ l) : Lib.cut (l ++ z :: r) [z] = (l, r, true) := by
  unfold Lib.cut
  rw [Lib.index_one, byte_at z l r h, if_pos (by omega)]
  simp
theorem split_mem (z : UInt8) (l : List UInt8) (h : z ∈ l) : ∃ a b, l = a ++ z :: b ∧ z ∉ a := by
  induction l with
  | nil => simp at h
  | cons c t ih =>
    by_cases e : c = z
    · exact ⟨[], t, by simp [e], by simp⟩
    · have : z ∈ t := by
        rcases List.mem_cons.1 h with h | h
        · exact absurd h.symm e
        · exact h
      obtain ⟨a, b, h1, h2⟩ := ih this
      refine ⟨c :: a, b, by simp [h1], ?_⟩
      intro hm
      rcases List.mem_cons.1 hm with hm | hm
      · exact e hm.symm
      · exact h2 hm
/-- the two ways of a cut -/
theorem cut_cases (z : UInt8) (l : List UInt8) : (∃ a b, l = a ++ z :: b ∧ z ∉ a ∧ Lib.cut l [z] = (a, b, true)) ∨ (z ∉ l ∧ Lib.cut l [z] = (l, [], false)) := by
  by_cases h : z ∈ l
  · obtain ⟨a, b, h1, h2⟩ := split_mem z l h
    left
    exact ⟨a, b, h1, h2, by rw [h1]; exact cut_at z a b h2⟩
  · exact Or.inr ⟨h, cut_none z l h⟩
/-! ### the parts of an operation's text -/
def jn (w : List UInt8) (xs : List (List UInt8)) : List UInt8 := w ++ xs.flatMap (fun x => 32 :: x)
theorem jn_cons (w x : List UInt8) (xs : List (List UInt8)) : jn w (x :: xs) = w ++ 32 :: jn x xs := by simp [jn]
theorem split_jn : ∀ (xs : List (List UInt8)) (w : List UInt8), (32 : UInt8) ∉ w → (∀ x ∈ xs, (32 : UInt8) ∉ x) → Lib.count (jn w xs) [32] = xs.length ∧ Lib.splitK [32] 0 xs.length (jn w xs) = w :: xs := by
  intro xs
  induction xs with
  | nil =>
    intro w hw _
    have e : jn w [] = w := by simp [jn]
    rw [e]
    have hi : Lib.index w [32] = -1 := by rw [Lib.index_one, byte_none 32 w hw]
    exact ⟨Lib.count_miss hi, rfl⟩
  | cons x xs ih =>
    intro w hw hx
    rw [jn_cons]
    have hi : Lib.index (w ++ 32 :: jn x xs) [32] = (w.length : Int) := by rw [Lib.index_one, byte_at 32 w _ hw]
    obtain ⟨h1, h2⟩ := ih x (hx x (by simp)) (fun y hy => hx y (by simp [hy]))
    have hd : (w ++ 32 :: jn x xs).drop (w.length + [(32 : UInt8)].length) = jn x xs := by
      rw [show w.length + [(32 : UInt8)].length = w.length + 1 from rfl]
      simp
    refine ⟨?_, ?_⟩
    · rw [Lib.count_hit (by simp) hi, hd, h1, List.length_cons]; omega
    · rw [List.length_cons]
      show (if Lib.index (w ++ 32 :: jn x xs) [32] == -1 then _ else _) = _
      rw [hi, if_neg (by simp <;> omega), Int.toNat_natCast, hd, h2]
      simp
theorem wNm_no (kind : Int) : ∀ x ∈ wNm kind, (32 : UInt8) ∉ x ∧ (10 : UInt8) ∉ x := by unfold wNm; (repeat' split) <;> decide
theorem wN_no (kind code : Int) : (32 : UInt8) ∉ wN kind code ∧ (10 : UInt8) ∉ wN kind code := by
  unfold wN
  generalize (code - 1).toNat = c
  rcases Nat.lt_or_ge c (wNm kind).length with h | h
  · exact wNm_no kind _ (by simp [h])
  · simp [List.getD_eq_getElem?_getD, List.getElem?_eq_none h]
theorem opT_jn (kind : Int) (o : OpM) : opT kind o = jn (wN kind o.code) (o.args.map Lib.itoa) := by
  unfold opT jn
  rw [List.flatMap_map]
/-- a text is that of the operation -/
def Good (kind : Int) (s : ByteArray) (o : OpM) : Prop := validOp kind o = true ∧ bs (opT kind o) = s
def partsB (s : ByteArray) : List ByteArray := Lib.splitB ⟨#[32]⟩ 0 (Lib.countB s ⟨#[32]⟩) s
theorem parts_good {kind : Int} {s : ByteArray} {o : OpM} (h : Good kind s o) : partsB s = bs (wN kind o.code) :: o.args.map (fun n => bs (Lib.itoa n)) := by
  obtain ⟨_, rfl⟩ := h
  have h1 := split_jn (o.args.map Lib.itoa) (wN kind o.code) (wN_no kind o.code).1 (fun x hx => by
    obtain ⟨n, _, rfl⟩ := List.mem_map.1 hx
    exact (itoa_no n).1)
  rw [← opT_jn] at h1
  have h2 : Lib.countB (bs (opT kind o)) ⟨#[32]⟩ = (o.args.map Lib.itoa).length := by
    show Lib.count _ _ = _
    rw [bs_data]
    exact h1.1
  have h3 : (partsB (bs (opT kind o))).map (·.data.toList) = wN kind o.code :: o.args.map Lib.itoa := by
    unfold partsB
    rw [Lib.splitB_data, h2, bs_data]
    exact h1.2
  have h4 : (partsB (bs (opT kind o))).map (fun x => bs x.data.toList) = partsB (bs (opT kind o)) := by
    conv => rhs; rw [← List.map_id (partsB (bs (opT kind o)))]
    exact List.map_congr_left (fun x _ => bs_of x)
  rw [← h4, show (fun x : ByteArray => bs x.data.toList) = bs ∘ (fun x => x.data.toList) from rfl, ← List.map_map, h3]
  simp
theorem parts_length (s : ByteArray) : (partsB s).length = Lib.countB s ⟨#[32]⟩ + 1 := Lib.splitB_all _ (by decide) 0 _ s rfl
theorem splitB_size (sep : ByteArray) : ∀ (k : Nat) (s : ByteArray), ∀ p ∈ Lib.splitB sep 0 k s, p.size ≤ s.size := by
  intro k
  induction k with
  | zero => intro s p hp; simp [Lib.splitB] at hp; subst hp; exact Nat.le_refl _
  | succ k ih =>
    intro s p hp
    unfold Lib.splitB at hp
    split at hp
    · simp at hp; subst hp; exact Nat.le_refl _
    · rcases List.mem_cons.1 hp with hp | hp
      · subst hp; rw [ByteArray.size_extract]; omega
      · have := ih _ p hp
        rw [ByteArray.size_extract] at this
        omega
theorem parts_size (s : ByteArray) : ∀ p ∈ partsB s, p.size ≤ s.size := splitB_size _ _ s
theorem count_size (s : ByteArray) : Lib.countB s ⟨#[32]⟩ ≤ s.size := Lib.countB_le _ (by decide) _ s (Nat.le_refl _)
def nmB (kind : Int) : List ByteArray := (wNm kind).map bs
/-- the code of a word: 0 if there is none -/
def cdB (kind : Int) (p : ByteArray) : Int := 1 + Lib.idxOfS (nmB kind) p
theorem cd_fin : ∀ (k : Fin 7) (c : Fin 9), 1 ≤ k.val → 1 ≤ c.val → c.val ≤ nW k.val → cdB k.val (bs (wN k.val c.val)) = c.val := by decide +kernel
theorem kind_code {kind code : Int} (h1 : 1 ≤ code) (h2 : code ≤ nW kind) : ∃ (k : Fin 7) (c : Fin 9), kind = (k.val : Int) ∧ code = (c.val : Int) ∧ 1 ≤ k.val ∧ 1 ≤ c.val ∧ c.val ≤ nW (k.val : Int) := by
  have h3 := (nW_known kind).1 (by omega)
  have h4 := nW_le kind
  have h5 : ((kind.toNat : Nat) : Int) = kind := by omega
  refine ⟨⟨kind.toNat, by omega⟩, ⟨code.toNat, by omega⟩, by simp only; omega, by simp only; omega, by simp only; omega, by simp only; omega, ?_⟩
  simp only
  rw [h5]
  omega
theorem cd_good {kind code : Int} (h1 : 1 ≤ code) (h2 : code ≤ nW kind) : cdB kind (bs (wN kind code)) = code := by
  obtain ⟨k, c, rfl, rfl, a1, a2, a3⟩ := kind_code h1 h2
  exact cd_fin k c a1 a2 a3
/-- the last place at which a word stands, plus one -/
def rcd (ns : List ByteArray) (p : ByteArray) : Nat → Int
  | 0 => 0
  | j + 1 => if ns.getD j ByteArray.empty = p then (j : Int) + 1 else rcd ns p j
theorem rcd_fin : ∀ (k : Fin 7) (c : Fin 9), 1 ≤ k.val → 1 ≤ c.val → c.val ≤ nW k.val → rcd (nmB k.val) (bs (wN k.val c.val)) (nW k.val) = c.val := by decide +kernel
theorem rcd_good {kind code : Int} (h1 : 1 ≤ code) (h2 : code ≤ nW kind) : rcd (nmB kind) (bs (wN kind code)) (nW kind) = code := by
  obtain ⟨k, c, rfl, rfl, a1, a2, a3⟩ := kind_code h1 h2
  exact rcd_fin k c a1 a2 a3
theorem key_bd {n : Int} (h : keyB n = true) : -1048576 ≤ n ∧ n ≤ 1048576 := by unfold keyB at h; exact of_decide_eq_true h
/-- what the parts give is the operation -/
theorem good_eq {kind : Int} {s : ByteArray} {o : OpM} (h : Good kind s o) {p0 : ByteArray} {rest : List ByteArray} (hp : partsB s = p0 :: rest) {vals : List Int}
    (hl : vals.length = rest.length) (hv : ∀ i, i < vals.length → Lib.atoiAll (rest.getD i ByteArray.empty).data.toList = .ok (vals.getD i 0)) : (⟨cdB kind p0, vals⟩ : OpM) = o := by
  have h1 := parts_good h
  rw [hp] at h1
  injection h1 with h2 h3
  obtain ⟨_, h5, h6, h7⟩ := valid_args h.1
  obtain ⟨oc, oa⟩ := o
  have e1 : cdB kind p0 = oc := by rw [h2]; exact cd_good h6 h7
  have e2 : vals = oa := by
    subst h3
    simp only [List.length_map] at hl
    refine List.ext_getElem hl (fun i hi hi2 => ?_)
    have := hv i hi
    have hb := key_bd (h5 (oa[i]) (by simp))
    simp only [List.getD_eq_getElem?_getD, List.getElem?_map] at this
    rw [List.getElem?_eq_getElem hi, List.getElem?_eq_getElem hi2] at this
    simp only [Option.map_some, Option.getD_some, bs_data] at this
    rw [atoi_itoa _ (by omega) (by omega)] at this
    injection this with this
    exact this.symm
  rw [e1, e2]
theorem good_unique {kind : Int} {s : ByteArray} {o o' : OpM} (h : Good kind s o) (h' : Good kind s o') : o = o' := by
  have h1 := parts_good h'
  obtain ⟨_, h5, _⟩ := valid_args h'.1
  have h2 := good_eq h h1 (vals := o'.args) (by simp) (fun i hi => by
    have hb := key_bd (h5 (o'.args[i]) (by simp))
    simp only [List.getD_eq_getElem?_getD, List.getElem?_map, List.getElem?_eq_getElem hi, Option.map_some, Option.getD_some, bs_data]
    exact atoi_itoa _ (by omega) (by omega))
  have h3 := good_eq h' h1 (vals := o'.args) (by simp) (fun i hi => by
    have hb := key_bd (h5 (o'.args[i]) (by simp))
    simp only [List.getD_eq_getElem?_getD, List.getElem?_map, List.getElem?_eq_getElem hi, Option.map_some, Option.getD_some, bs_data]
    exact atoi_itoa _ (by omega) (by omega))
  exact h2.symm.trans h3
/-! ### the reference's reading -/
def rnum : List UInt8 → Int → Int × List UInt8
  | [], n => (n, [])
  | c :: t, n => if c = 32 then (n, c :: t) else rnum t (max (min (10 * n + (c.toNat : Int) - 48) 1048577) 0)
def rone (l : List UInt8) : Int × List UInt8 := if l.headD 0 = 45 then (-(rnum l.tail 0).1, (rnum l.tail 0).2) else rnum l 0
def rargs : Nat → List UInt8 → List Int → List Int
  | 0, _, acc => acc
  | _ + 1, [], acc => acc
  | f + 1, _ :: t, acc => if 64 < acc.length then acc else rargs f (rone t).2 (acc ++ [(rone t).1])
theorem rnum_len : ∀ (l : List UInt8) (n : Int), (rnum l n).2.length ≤ l.length
  | [], n => Nat.le_refl _
  | c :: t, n => by
    unfold rnum
    split
    · exact Nat.le_refl _
    · exact Nat.le_trans (rnum_len t _) (Nat.le_succ _)
theorem rone_len (l : List UInt8) : (rone l).2.length ≤ l.length := by
  unfold rone
  split
  · have := rnum_len l.tail 0
    simp only [List.length_tail] at this ⊢
    omega
  · exact rnum_len l 0
theorem rnum_dig : ∀ (l r : List UInt8) (n : Nat), (∀ c ∈ l, dgB c = true) → valF l n ≤ 1048577 → (r = [] ∨ ∃ t, r = 32 :: t) → rnum (l ++ r) (n : Int) = (((valF l n : Nat) : Int), r)
  | [], r, n, _, _, hr => by
    rcases hr with rfl | ⟨t, rfl⟩
    · rfl
    · show rnum (32 :: t) n = _
      unfold rnum
      rw [if_pos rfl]
      rfl
  | c :: l, r, n, hd, hb, hr => by
    have h1 : 48 ≤ c.toNat ∧ c.toNat ≤ 57 := by simpa [dgB] using hd c (by simp)
    have hne : c ≠ 32 := fun e => by subst e; exact absurd h1.1 (by decide)
    rw [valF_cons] at hb ⊢
    have h3 := valF_ge l (10 * n + (c.toNat - 48))
    have ih := rnum_dig l r (10 * n + (c.toNat - 48)) (fun x hx => hd x (by simp [hx])) hb hr
    show rnum (c :: (l ++ r)) n = _
    unfold rnum
    rw [if_neg hne]
    rw [show max (min (10 * (n : Int) + (c.toNat : Int) - 48) 1048577) 0 = ((10 * n + (c.toNat - 48) : Nat) : Int) by omega]
    exact ih
theorem rone_itoa (n : Int) (r : List UInt8) (h : keyB n = true) (hr : r = [] ∨ ∃ t, r = 32 :: t) : rone (Lib.itoa n ++ r) = (n, r) := by
  have hb := key_bd h
  unfold Lib.itoa
  by_cases hn : n < 0
  · rw [if_pos hn]
    obtain ⟨d1, d2⟩ := dec_dig n.natAbs
    have := rnum_dig (Lib.decDigits n.natAbs) r 0 d1 (by rw [d2]; omega) hr
    rw [d2] at this
    unfold rone
    rw [if_pos (by simp), List.cons_append, List.tail_cons]
    rw [show ((0 : Nat) : Int) = 0 from rfl] at this
    rw [this]
    refine Prod.ext ?_ rfl
    simp only
    omega
  · rw [if_neg hn]
    obtain ⟨d1, d2⟩ := dec_dig n.toNat
    have := rnum_dig (Lib.decDigits n.toNat) r 0 d1 (by rw [d2]; omega) hr
    rw [d2] at this
    have hh : (Lib.decDigits n.toNat ++ r).headD 0 ≠ 45 := by
      have h0 := dec_ne n.toNat
      cases hl : Lib.decDigits n.toNat with
      | nil => exact absurd hl h0
      | cons c t =>
        intro e
        have h5 := d1 c (by rw [hl]; simp)
        simp only [List.cons_append, List.headD_cons] at e
        subst e
        exact absurd h5 (by decide)
    unfold rone
    rw [if_neg hh]
    rw [show ((0 : Nat) : Int) = 0 from rfl] at this
    rw [this]
    refine Prod.ext ?_ rfl
    simp only
    omega
theorem fm_start (xs : List Int) : (xs.flatMap fun n => 32 :: Lib.itoa n) = [] ∨ ∃ t, (xs.flatMap fun n => 32 :: Lib.itoa n) = 32 :: t := by
  cases xs with
  | nil => exact Or.inl rfl
  | cons a l => exact Or.inr ⟨_, by rw [List.flatMap_cons, List.cons_append]⟩
theorem rargs_good : ∀ (xs : List Int) (f : Nat) (acc : List Int), (∀ n ∈ xs, keyB n = true) → xs.length < f → acc.length + xs.length ≤ 65 → rargs f (xs.flatMap fun n => 32 :: Lib.itoa n) acc = acc ++ xs
  | [], f, acc, _, hf, _ => by
    cases f with
    | zero => omega
    | succ f => simp [rargs]
  | n :: xs, f, acc, hk, hf, hl => by
    cases f with
    | zero => omega
    | succ f =>
      simp only [List.length_cons] at hf hl
      rw [List.flatMap_cons, List.cons_append]
      unfold rargs
      rw [if_neg (by omega), rone_itoa n _ (hk n (by simp)) (fm_start xs)]
      rw [rargs_good xs f (acc ++ [n]) (fun x hx => hk x (by simp [hx])) (by omega) (by simp; omega)]
      simp

end Go.Proofs.YthpekfpeoglbgaaGreatDoor
