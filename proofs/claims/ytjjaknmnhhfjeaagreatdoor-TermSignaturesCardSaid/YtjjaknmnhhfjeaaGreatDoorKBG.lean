/- The texts Y42 Y43 Y54, one behind the other. -/
import Derived.Test.YtjjaknmnhhfjeaaGreatDoorKBD
import Derived.Test.YtjjaknmnhhfjeaaGreatDoorKBF
import Derived.Test.YtjjaknmnhhfjeaaGreatDoorKAX
import Derived.Test.YtjjaknmnhhfjeaaGreatDoorKBB
import Derived.Test.YtjjaknmnhhfjeaaGreatDoorKBC
/- Text of the reference. -/
namespace Go.Proofs.YtjjaknmnhhfjeaaGreatDoor
open Go.RowKit Go.Hw Go Go.Sort Go.Proofs Go.ChangeMaps
set_option linter.unusedVariables false
set_option linter.unusedSimpArgs false

open Tm
end Go.Proofs.YtjjaknmnhhfjeaaGreatDoor

/- Parsed of the reference. -/
namespace Go.Proofs.YtjjaknmnhhfjeaaGreatDoor
open Go.RowKit Go.Hw Go Go.Sort Go.Proofs Go.ChangeMaps
set_option linter.unusedVariables false
set_option linter.unusedSimpArgs false

open Tm
def tq (l : List Tok) (i : Nat) : Tok := tk l i
end Go.Proofs.YtjjaknmnhhfjeaaGreatDoor

/- names of the reference. -/
namespace Go.Proofs.YtjjaknmnhhfjeaaGreatDoor
open Go.RowKit Go.Hw Go Go.Sort Go.Proofs Go.ChangeMaps
set_option linter.unusedVariables false
set_option linter.unusedSimpArgs false

open Tm
def NmP : PR (List By) → Ending → World → World → Prop
  | .ok xs j, e, w, w' => ∃ v, e = .returned (.tuple #[v, .int .i64 (j : Int), .bool true]) ∧ StrR (fun k => w.heap.size ≤ k ∧ k < w'.heap.size) w' v xs ∧ xs.length ≤ j ∧ Ext w w'
  | .bad j, e, w, w' => e = .returned (.tuple #[.slice none 0 0, .int .i64 (j : Int), .bool false]) ∧ Ext w w'
def pNe (l : List Tok) (m j : Nat) (xs : List By) : PR (List By) := match pN l j with
  | .bad k => .bad k
  | .ok x k => pL (pN l) l m k false (xs ++ [x])
theorem pNe_bad {l : List Tok} {m j : Nat} {xs : List By} (h : (tk l j).kind ≠ 1) : pNe l m j xs = .bad j := by
  unfold pNe pN
  rw [if_pos h]
theorem pNe_ok {l : List Tok} {m j : Nat} {xs : List By} (h : (tk l j).kind = 1) : pNe l m j xs = pL (pN l) l m (j + 1) false (xs ++ [(tk l j).text]) := by
  unfold pNe pN
  rw [if_neg (fun h2 => h2 h)]
theorem pLn_next {l : List Tok} {m k : Nat} {xs : List By} (h1 : isB (tk l k) sRp = false) (h2 : isB (tk l k) sCm = true) : pL (pN l) l (m + 1) k false xs = pNe l m (k + 1) xs := by
  rw [pL, if_neg (by rw [h1]; decide), if_neg (fun h => by rw [h2] at h; cases h.2), if_neg (by decide)]
  unfold pNe
  cases pN l (k + 1) <;> rfl
theorem pLn_first {l : List Tok} {m k : Nat} (h1 : isB (tk l k) sRp = false) : pL (pN l) l (m + 1) k true [] = pNe l m k [] := by
  rw [pL, if_neg (by rw [h1]; decide), if_neg (fun h => by cases h.1), if_pos rfl]
  unfold pNe
  cases pN l k <;> rfl
set_option maxRecDepth 100000 in
set_option maxHeartbeats 8000000 in
theorem rnames_x (la : Option Addr) (lc : Nat) (S : Nat → Prop) (l : List Tok) (hE : Ended l) (hok : ∀ i, TkOk (tk l i)) (hl : l.length ≤ 1000000) (i m0 : Nat) (w : World) (hR : TkR S w (.slice la l.length lc) l) (hi : i < l.length) (hm0 : l.length - i ≤ m0) :
    Calls Tryz.prog 130 #[.slice la l.length lc, .int .i64 (i : Int)] w fun e w' => NmP (pL (pN l) l (m0 + 1) i true []) e w w' := by
  obtain ⟨gg, off, hga, _, hat⟩ := (TkR.at_ hR (Nat.lt_of_le_of_lt (Nat.zero_le _) hi)).2
  subst hga
  have HC : Hid (∀ W, Ext w W → ∀ j, j < l.length → W.cell? ⟨gg, off + j * 5, none⟩ = some (.int .i64 ((tq l j).kind : Int)) ∧ W.cell? ⟨gg, off + j * 5 + 1, none⟩ = some (.string (tq l j).text) ∧ W.cell? ⟨gg, off + j * 5 + 2, none⟩ = some (.int .i64 (tq l j).n) ∧ W.cell? ⟨gg, off + j * 5 + 3, none⟩ = some (.int .i64 (tq l j).line) ∧ W.cell? ⟨gg, off + j * 5 + 4, none⟩ = some (.int .i64 (tq l j).col)) := Lib.hid (fun W hW j hj => by
    obtain ⟨q0, q1, q2, q3, q4⟩ := hat j hj
    exact ⟨hW.cell q0 (fun h => h), hW.cell q1 (fun h => h), hW.cell q2 (fun h => h), hW.cell q3 (fun h => h), hW.cell q4 (fun h => h)⟩)
  have HIS : Hid (∀ (j : Nat) (s : By) (W : World), kwB s = false → Calls Tryz.prog 105 #[.agg #[.int .i64 ((tq l j).kind : Int), .string (tq l j).text, .int .i64 (tq l j).n, .int .i64 (tq l j).line, .int .i64 (tq l j).col], .int .i64 4, .string s] W fun e W' => e = .returned (.bool (isB (tq l j) s)) ∧ Ext W W') := Lib.hid (fun j s W hs => by
    have h9 : isB (tq l j) s = (decide ((tq l j).kind = 4) && decide ((tq l j).text = s)) := is4 (hok j) hs
    rw [h9]
    exact rIs_x (tq l j) 4 s W)
  have HEN := Lib.hid hE
  obtain ⟨Q, hQ⟩ : ∃ Q, pL (pN l) l (m0 + 1) i true [] = Q := ⟨_, rfl⟩
  rw [hQ]
  have HQ := Lib.hid hQ
  have HK := Lib.hid kw_no
  have HE0 : Hid (Ext w w) := Lib.hid (Upd.refl _ w)
  obtain ⟨iS, hi9, hz0, hz1, hz2⟩ := info_parts infoS
  clear hR hat hQ
  go_enter Tryz.func130, Tryz.ntmps130
  have i0 : (0 : Int) ≤ (i : Int) := by omega
  have i1' : (i : Int) < (l.length : Int) := by omega
  obtain ⟨q0, q1, q2, q3, q4⟩ := HC.out w HE0.out i hi
  go_wp2_with fail
  refine (HIS.out i sRp w HK.out.2.2.1).mono ?_
  rintro e w1 ⟨rfl, h1⟩
  have HE1 := Lib.hid (HE0.out.trans h1)
  clear h1 q0 q1 q2 q3 q4 HE0
  obtain ⟨c, hc⟩ : ∃ c, isB (tq l i) sRp = c := ⟨_, rfl⟩
  rw [hc]
  have HCC : Hid (isB (tk l i) sRp = c) := Lib.hid hc
  clear hc
  cases c
  case true =>
    have HV : Hid (Q = .ok [] (i + 1)) := Lib.hid (by rw [← HQ.out, pL, if_pos HCC.out])
    obtain ⟨i2, hi2⟩ : ∃ q, i + 1 = q := ⟨_, rfl⟩
    have hci2 : (i : Int) + 1 = (i2 : Int) := by omega
    have hwi2 : IntKind.i64.wrap ((i : Int) + 1) = (i : Int) + 1 := IntWalk.i64_in _ (by omega)
    rw [hi2] at HV
    go_wp2_with fail
    refine bodyPost_ret (v := .tuple #[.slice none 0 0, .int .i64 ((i2 : Int)), .bool true]) (by simp [results, Tryz.results130, go_sem]) rfl ?_
    rw [HV.out]
    exact ⟨.slice none 0 0, rfl, SlR.nil _ _ _, Nat.zero_le _, HE1.out⟩
  have HQ2 : Hid (pNe l m0 i [] = Q) := Lib.hid (by rw [← HQ.out, pLn_first HCC.out])
  have HO1 : Hid (w1.ownsRow w.heap.size 9 1 (.slice none 0 0) 0 []) := Lib.hid ⟨rfl, .inl ⟨rfl, rfl⟩⟩
  clear HQ HCC i0 i1'
  go_wp2_with fail
  go_loopg [1, 7] (l.length - i) (fun gk at_ lv wr => ∃ (m j : Nat) (xs : List By) (a0 : Option Addr) (c0 : Nat), at_ = .int .i64 (j : Int) ∧ lv = .slice a0 xs.length c0 ∧ gk = l.length - j ∧ j < l.length ∧ l.length - j ≤ m ∧ xs.length ≤ j ∧ Hid (pNe l m j xs = Q) ∧ Hid (wr.ownsRow w.heap.size 9 1 (.slice a0 xs.length c0) xs.length (xs.map Value.string)) ∧ Hid (Ext w wr))
  case atStart => exact ⟨m0, i, [], _, _, rfl, rfl, rfl, hi, hm0, Nat.zero_le _, HQ2, HO1, HE1⟩
  case round =>
    clear HQ2 HO1 HE1 hi hm0
    obtain ⟨m, j, xs, a0, c0, rfl, rfl, rfl, hj, hm, hxl, HQ, HO, HE⟩ := hrel
    have hsw := HE.out.size
    have i0 : (0 : Int) ≤ (j : Int) := by omega
    have i1' : (j : Int) < (l.length : Int) := by omega
    obtain ⟨q0, q1, q2, q3, q4⟩ := HC.out wr HE.out j hj
    by_cases hk1 : (tq l j).kind = 1
    case neg =>
      have HV : Hid (Q = .bad j) := Lib.hid (by rw [← HQ.out, pNe_bad (show (tk l j).kind ≠ 1 from hk1)])
      have t1 : (((tq l j).kind : Int) == 1) = false := beq_eq_false_iff_ne.2 (by omega)
      have t2 : (((tq l j).kind : Int) != 1) = true := bne_iff_ne.2 (by omega)
      clear hk1
      go_wp2_with fail
      refine bodyPost_ret (v := .tuple #[.slice none 0 0, .int .i64 ((j : Int)), .bool false]) (by simp [results, Tryz.results130, go_sem]) rfl ?_
      rw [HV.out]
      exact ⟨rfl, HE.out⟩
    have hk1i : ((tq l j).kind : Int) = 1 := by omega
    rw [hk1i] at q0
    have hk' := HEN.out.next hj (by show ¬ (tq l j).kind = 5; omega)
    have HQ3 : Hid (pL (pN l) l m (j + 1) false (xs ++ [(tq l j).text]) = Q) := Lib.hid (by rw [← HQ.out, pNe_ok (show (tk l j).kind = 1 from hk1)]; rfl)
    obtain ⟨tx, htx⟩ : ∃ x, (tq l j).text = x := ⟨_, rfl⟩
    rw [htx] at HQ3 q1
    have HOA := Lib.hid (HO.out.alloc (.cells #[.string tx] 9))
    have hsa := alloc_size wr (.cells #[.string tx] 9)
    clear hk1 hk1i htx HQ
    go_wp2_with (at_builtin; refine wpList_append_at _ rfl (.tmp 23) (.tmp 29) 39 rfl w.heap.size 9 iS (.string ⟨#[]⟩) 1 16 Tryz.underlying39 hi9 hz0 hz1 hz2 rfl (by decide) _ _ _ rfl HOA.out ⟨wr.heap.size, 0, none⟩ 1 1 [.string tx] rfl rfl ?c1 ?c2 ?c3 ?c4 ?c5 ?_)
    try (case c1 =>
      intro k u hu
      match k, hu with
      | 0, hu => simp at hu; subst hu; simp only [Addr.add]; exact cellRow (alloc0 _ _) 0 _ rfl)
    try (case c2 => first | (intro u hu; simp at hu; subst hu; rfl) | exact ⟨rfl, trivial⟩ | rfl)
    case c3 => unfold maxLen; omega
    case c4 => omega
    case c5 => omega
    intro lv' w6 hG
    obtain ⟨na, nc, hlv⟩ := own_shape hG.own
    subst hlv
    have HO6 : Hid (w6.ownsRow w.heap.size 9 1 (.slice na (xs.length + 1) nc) (xs ++ [tx]).length ((xs ++ [tx]).map Value.string)) := Lib.hid (by
      rw [List.map_append, List.length_append]
      exact hG.own)
    have HE6 : Hid (Ext w w6) := Lib.hid ((HE.out.alloc (.cells #[.string tx] 9)).trans' hG.upd (fun k hk e => by have := (HO.out.lt _ e).1; omega))
    have hlen : (xs ++ [tx]).length = xs.length + 1 := by simp
    clear hG HOA hsa q0 q1 q2 q3 q4 HO HE i0 i1'
    obtain ⟨k, hk⟩ : ∃ q, j + 1 = q := ⟨_, rfl⟩
    have hck : (j : Int) + 1 = (k : Int) := by omega
    have hwk : IntKind.i64.wrap ((j : Int) + 1) = (j : Int) + 1 := IntWalk.i64_in _ (by omega)
    rw [hk] at hk' HQ3
    obtain ⟨m, rfl⟩ : ∃ m', m = m' + 1 := ⟨m - 1, by omega⟩
    have i0 : (0 : Int) ≤ (k : Int) := by omega
    have i1' : (k : Int) < (l.length : Int) := by omega
    obtain ⟨q0, q1, q2, q3, q4⟩ := HC.out w6 HE6.out k hk'
    go_upto_region 8 with fail
    try rw [hck]
    go_wp2_with fail
    refine (HIS.out k sRp w6 HK.out.2.2.1).mono ?_
    rintro e w7 ⟨rfl, h7⟩
    have HE7 := Lib.hid (HE6.out.trans h7)
    have HO7 := Lib.hid (own_kept HO6.out h7 (fun _ _ h => h))
    clear h7 q0 q1 q2 q3 q4 HE6 HO6
    obtain ⟨c, hc⟩ : ∃ c, isB (tq l k) sRp = c := ⟨_, rfl⟩
    rw [hc]
    have HCC : Hid (isB (tk l k) sRp = c) := Lib.hid hc
    clear hc
    cases c
    case true =>
      have HV : Hid (Q = .ok (xs ++ [tx]) (k + 1)) := Lib.hid (by rw [← HQ3.out, pL, if_pos HCC.out])
      obtain ⟨k2, hk2⟩ : ∃ q, k + 1 = q := ⟨_, rfl⟩
      have hck2 : (k : Int) + 1 = (k2 : Int) := by omega
      have hwk2 : IntKind.i64.wrap ((k : Int) + 1) = (k : Int) + 1 := IntWalk.i64_in _ (by omega)
      rw [hk2] at HV
      go_wp2_with fail
      refine bodyPost_ret (v := .tuple #[.slice na (xs.length + 1) nc, .int .i64 ((k2 : Int)), .bool true]) (by simp [results, Tryz.results130, go_sem]) rfl ?_
      rw [HV.out]
      refine ⟨.slice na (xs.length + 1) nc, rfl, (SlR.of_own HO7.out).weaken (fun k hk => ⟨(HO7.out.lt k hk).1, (HO7.out.lt k hk).2⟩), by omega, HE7.out⟩
    obtain ⟨q0, q1, q2, q3, q4⟩ := HC.out w7 HE7.out k hk'
    go_wp2_with fail
    refine (HIS.out k sCm w7 HK.out.2.2.2.1).mono ?_
    rintro e w8 ⟨rfl, h8⟩
    have HE8 := Lib.hid (HE7.out.trans h8)
    have HO8 := Lib.hid (own_kept HO7.out h8 (fun _ _ h => h))
    clear h8 q0 q1 q2 q3 q4 HE7 HO7
    obtain ⟨c, hc⟩ : ∃ c, isB (tq l k) sCm = c := ⟨_, rfl⟩
    rw [hc]
    have HC2 : Hid (isB (tk l k) sCm = c) := Lib.hid hc
    clear hc
    cases c
    case false =>
      have HV : Hid (Q = .bad k) := Lib.hid (by rw [← HQ3.out, pL, if_neg (by rw [HCC.out]; decide), if_pos ⟨rfl, HC2.out⟩])
      go_wp2_with fail
      refine bodyPost_ret (v := .tuple #[.slice none 0 0, .int .i64 ((k : Int)), .bool false]) (by simp [results, Tryz.results130, go_sem]) rfl ?_
      rw [HV.out]
      exact ⟨rfl, HE8.out⟩
    have hk2' := HEN.out.isB hk' HC2.out
    have HQ4 : Hid (pNe l m (k + 1) (xs ++ [tx]) = Q) := Lib.hid (by rw [← HQ3.out, pLn_next HCC.out HC2.out])
    obtain ⟨k2, hk2⟩ : ∃ q, k + 1 = q := ⟨_, rfl⟩
    have hck2 : (k : Int) + 1 = (k2 : Int) := by omega
    have hwk2 : IntKind.i64.wrap ((k : Int) + 1) = (k : Int) + 1 := IntWalk.i64_in _ (by omega)
    rw [hk2] at HQ4 hk2'
    go_wp2_with fail
    try rw [hck2]
    go_roundg (l.length - k2)
    case measure => omega
    case rel => exact ⟨m, k2, xs ++ [tx], na, nc, by go_num, by rw [hlen], rfl, hk2', by omega, by rw [hlen]; omega, HQ4, by rw [hlen]; rw [hlen] at HO8; exact HO8, HE8⟩

end Go.Proofs.YtjjaknmnhhfjeaaGreatDoor
