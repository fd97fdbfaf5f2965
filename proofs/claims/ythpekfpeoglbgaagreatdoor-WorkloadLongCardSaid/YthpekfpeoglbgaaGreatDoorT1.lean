/- The texts of operations and of scripts. -/
import Derived.Test.YthpekfpeoglbgaaGreatDoorP1
import Derived.Test.YthpekfpeoglbgaaGreatDoorL1
import Derived.Lib.ItoaLen
namespace Go.Proofs.YthpekfpeoglbgaaGreatDoor
open Go.RowKit Go.Hw
set_option linter.unusedVariables false
set_option linter.unusedSimpArgs false

/-- the words of the operations of a kind -/
def wNm (kind : Int) : List (List UInt8) := if kind = 1 then [[112, 117, 116], [103, 101, 116], [114, 101, 109, 111, 118, 101], [102, 108, 111, 111, 114], [99, 101, 105, 108, 105, 110, 103], [114, 97, 110, 107], [115, 101, 108, 101, 99, 116], [115, 105, 122, 101]] else if kind = 2 then [[105, 110, 115, 101, 114, 116], [109, 105, 110], [100, 101, 108, 101, 116, 101, 109, 105, 110], [115, 105, 122, 101]] else if kind = 3 then [[105, 110, 115, 101, 114, 116], [114, 101, 109, 111, 118, 101], [103, 101, 116], [115, 101, 116], [115, 117, 109], [114, 101, 118, 101, 114, 115, 101], [115, 105, 122, 101]] else if kind = 4 then [[109, 97, 107, 101], [117, 110, 105, 111, 110], [115, 97, 109, 101], [115, 105, 122, 101], [99, 111, 117, 110, 116]] else if kind = 5 then [[97, 100, 100], [114, 101, 109, 111, 118, 101], [99, 111, 117, 110, 116], [115, 117, 109], [115, 105, 122, 101]] else if kind = 6 then [[97, 112, 112, 101, 110, 100], [99, 111, 117, 110, 116], [102, 105, 110, 100], [115, 105, 122, 101]] else []
/-- the word of a kind -/
def kWd (kind : Int) : List UInt8 := if kind = 1 then [100, 105, 99, 116] else if kind = 2 then [104, 101, 97, 112] else if kind = 3 then [115, 101, 113] else if kind = 4 then [115, 101, 116, 115] else if kind = 5 then [114, 97, 110, 103, 101] else if kind = 6 then [116, 101, 120, 116] else []
theorem wNm_length (kind : Int) : (wNm kind).length = nW kind := by unfold wNm nW; (repeat' split) <;> rfl
def wN (kind code : Int) : List UInt8 := (wNm kind).getD (code - 1).toNat []
/-- the text of an operation -/
def opT (kind : Int) (o : OpM) : List UInt8 := wN kind o.code ++ o.args.flatMap fun n => 32 :: Lib.itoa n
/-- the head of a script -/
def hdT (kind : Int) : List UInt8 := [115, 99, 114, 105, 112, 116, 32] ++ kWd kind ++ [10]
/-- the lines of a script -/
def lnT (kind : Int) (l : List OpM) : List UInt8 := l.flatMap fun o => opT kind o ++ [10]
/-- the text of a script -/
def scT (kind : Int) (l : List OpM) : List UInt8 := hdT kind ++ lnT kind l
/-- a list of bytes as a string -/
def bs (l : List UInt8) : ByteArray := ⟨l.toArray⟩
theorem bs_size (l : List UInt8) : (bs l).size = l.length := by simp [bs, ByteArray.size]
theorem bs_app (a b : List UInt8) : bs a ++ bs b = bs (a ++ b) := by
  apply ByteArray.ext
  simp [bs, ByteArray.data_append]
theorem bs_data (l : List UInt8) : (bs l).data.toList = l := by simp [bs]
theorem bs_inj {a b : List UInt8} (h : bs a = bs b) : a = b := by rw [← bs_data a, h, bs_data]
theorem bs_of (s : ByteArray) : bs s.data.toList = s := by cases s; simp [bs]
theorem bs_nil : bs [] = ⟨#[]⟩ := rfl
theorem wNm_len (kind : Int) : ∀ x ∈ wNm kind, x.length ≤ 9 := by unfold wNm; (repeat' split) <;> simp
theorem wN_len (kind code : Int) : (wN kind code).length ≤ 9 := by
  unfold wN
  generalize (code - 1).toNat = c
  rcases Nat.lt_or_ge c (wNm kind).length with h | h
  · exact wNm_len kind _ (by simp [h])
  · simp [List.getD_eq_getElem?_getD, List.getElem?_eq_none h]
theorem kWd_len (kind : Int) : (kWd kind).length ≤ 5 := by unfold kWd; (repeat' split) <;> simp
theorem hdT_len (kind : Int) : (hdT kind).length ≤ 13 := by
  have := kWd_len kind
  unfold hdT
  simp only [List.length_append, List.length_cons, List.length_nil]
  omega
theorem itoa_len {n : Int} (h : keyB n = true) : (Lib.itoa n).length ≤ 21 := by
  unfold keyB at h
  have h := of_decide_eq_true h
  exact Lib.itoa_length_le n (by omega) (by omega)
theorem chr_key {n : Int} (h : chrB n = true) : keyB n = true := by
  unfold chrB at h; unfold keyB
  have h := of_decide_eq_true h
  exact decide_eq_true (by omega)
theorem valid_args {kind : Int} {o : OpM} (h : validOp kind o = true) : o.args.length ≤ 64 ∧ (∀ n ∈ o.args, keyB n = true) ∧ 1 ≤ o.code ∧ o.code ≤ nW kind := by
  unfold validOp at h
  rw [Bool.and_eq_true] at h
  obtain ⟨h1, h2⟩ := h
  have h1 := of_decide_eq_true h1
  by_cases ha : ar kind o.code < 0
  · rw [if_pos ha, Bool.and_eq_true] at h2
    exact ⟨(of_decide_eq_true h2.1).2, fun n hn => chr_key (List.all_eq_true.1 h2.2 n hn), h1.1, h1.2⟩
  · rw [if_neg ha, Bool.and_eq_true] at h2
    have h3 := of_decide_eq_true h2.1
    have h4 := ar_bd kind o.code
    exact ⟨by omega, fun n hn => List.all_eq_true.1 h2.2 n hn, h1.1, h1.2⟩
theorem fm_len {l : List Int} (h : ∀ n ∈ l, keyB n = true) : (l.flatMap fun n => 32 :: Lib.itoa n).length ≤ 22 * l.length := by
  induction l with
  | nil => simp
  | cons a l ih =>
    have h1 := itoa_len (h a (by simp))
    have h2 := ih (fun n hn => h n (by simp [hn]))
    simp only [List.flatMap_cons, List.length_append, List.length_cons]
    omega
theorem opT_len {kind : Int} {o : OpM} (h : validOp kind o = true) : (opT kind o).length ≤ 1417 := by
  obtain ⟨h1, h2, _⟩ := valid_args h
  have h3 := fm_len h2
  have h4 := wN_len kind o.code
  unfold opT
  rw [List.length_append]
  omega
theorem lnT_len {kind : Int} {l : List OpM} (h : l.all (validOp kind) = true) : (lnT kind l).length ≤ 1418 * l.length := by
  induction l with
  | nil => simp [lnT]
  | cons a l ih =>
    rw [List.all_cons, Bool.and_eq_true] at h
    have h1 := opT_len h.1
    have h2 := ih h.2
    unfold lnT at *
    simp only [List.flatMap_cons, List.length_append, List.length_cons, List.length_nil]
    omega
theorem lnT_snoc (kind : Int) (l : List OpM) (o : OpM) : lnT kind (l ++ [o]) = lnT kind l ++ (opT kind o ++ [10]) := by simp [lnT]
theorem fm_snoc (l : List Int) (n : Int) : ((l ++ [n]).flatMap fun n => 32 :: Lib.itoa n) = (l.flatMap fun n => 32 :: Lib.itoa n) ++ (32 :: Lib.itoa n) := by simp

end Go.Proofs.YthpekfpeoglbgaaGreatDoor
