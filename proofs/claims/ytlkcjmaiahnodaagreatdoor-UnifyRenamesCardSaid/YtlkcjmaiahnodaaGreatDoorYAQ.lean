/- The texts N24 N25 N26 N27 N28, one behind the other. -/
import Derived.Test.YtlkcjmaiahnodaaGreatDoorYAP
import Derived.Test.YtlkcjmaiahnodaaGreatDoorYAB
import Derived.Test.YtlkcjmaiahnodaaGreatDoorYAF
/- renamed, of the reference. -/
namespace Go.Proofs.YtlkcjmaiahnodaaGreatDoor
open Go.RowKit Go.Hw Go
set_option linter.unusedVariables false
set_option linter.unusedSimpArgs false

open Tm Go.Sort Go.Proofs Go.ChangeMaps
def okR (suf : By) (t : Tm) : Bool := (vof t).all fun f => nmB (f.1 ++ suf)
theorem okR_opn (suf n : By) (L : List Tm) : okR suf (.mk n nul L) = L.all (okR suf) := by
  unfold okR
  rw [vof_op, List.all_flatMap]
set_option maxRecDepth 100000 in
set_option maxHeartbeats 2000000 in
theorem renamed_x (suf : By) : ∀ (t : Tm) (v : Value) (S : Nat → Prop) (w : World), TmR S w t v → (∀ k, S k → k < w.heap.size) → t.size ≤ 100000 → (∀ f ∈ vof t, f.1.size + suf.size ≤ 100000) → NoP t →
    Calls Tryz.prog 82 #[v, .string suf] w fun e w' => ∃ (q : Tm) (ra : Option Addr) (rc : Nat), e = .returned (.tuple #[.agg #[.string q.name, .string q.sort, .slice ra q.kids.length rc], .bool (okR suf t)]) ∧ (okR suf t = true → q = sbT (fun n s => vr (n ++ suf) s) t ∧ ∃ B, TlO 24 w' B q.kids (.slice ra q.kids.length rc) ∧ ∀ j, B j → w.heap.size ≤ j ∧ j < w'.heap.size) ∧ Ext w w' := by
  refine Tm.ind (fun n s L ih => ?_)
  intro v S w hT hS hsz hok hnp
  have HNP := Lib.hid hnp
  clear hnp
  obtain ⟨OKV, hOK⟩ : ∃ b, okR suf (.mk n s L) = b := ⟨_, rfl⟩
  rw [hOK]
  have HOKV := Lib.hid hOK
  obtain ⟨ZT, hZT⟩ : ∃ z, sbT (fun n s => vr (n ++ suf) s) (.mk n s L) = z := ⟨_, rfl⟩
  rw [hZT]
  have HZT := Lib.hid hZT
  clear hOK hZT
  obtain ⟨a, cap, rfl, hT⟩ := hT
  dsimp only [tV, Tm.name, Tm.sort, Tm.kids] at hT ⊢
  have HTL := Lib.hid hT
  have HIH := Lib.hid ih
  have HSS := Lib.hid hS
  have HOK := Lib.hid hok
  have hszL : sizes L + 1 ≤ 100000 := by rw [size_eq] at hsz; simp only [Tm.kids] at hsz; omega
  have HSL := Lib.hid hszL
  have hlL : L.length ≤ 100000 := by have h1 := length_le_sizes L; omega
  have hZ := (((Upd.refl (fun _ => False) w).alloc (.cells #[.string n, .string s, .slice a L.length cap] 24)).alloc (.cells #[.string ⟨#[]⟩, .string ⟨#[]⟩, .slice none 0 0] 24)).alloc (.cells #[.string n, .string s, .slice none 0 0] 24)
  have HB2 := Lib.hid (allocOld (allocOld (alloc0 w (.cells #[.string n, .string s, .slice a L.length cap] 24)) (.cells #[.string ⟨#[]⟩, .string ⟨#[]⟩, .slice none 0 0] 24)) (.cells #[.string n, .string s, .slice none 0 0] 24))
  have HB3 := Lib.hid (allocOld (alloc_at (w.alloc (.cells #[.string n, .string s, .slice a L.length cap] 24)) (.cells #[.string ⟨#[]⟩, .string ⟨#[]⟩, .slice none 0 0] 24) (n := w.heap.size + 1) (by simp)) (.cells #[.string n, .string s, .slice none 0 0] 24))
  have HB4 := Lib.hid (alloc_at ((w.alloc (.cells #[.string n, .string s, .slice a L.length cap] 24)).alloc (.cells #[.string ⟨#[]⟩, .string ⟨#[]⟩, .slice none 0 0] 24)) (.cells #[.string n, .string s, .slice none 0 0] 24) (n := w.heap.size + 2) (by simp))
  have hz2 : w.heap.size + 3 ≤ (((w.alloc (.cells #[.string n, .string s, .slice a L.length cap] 24)).alloc (.cells #[.string ⟨#[]⟩, .string ⟨#[]⟩, .slice none 0 0] 24)).alloc (.cells #[.string n, .string s, .slice none 0 0] 24)).heap.size := by simp
  have HZ := Lib.hid hZ
  have HZ2 := Lib.hid hz2
  have t1 := emp_dec s
  clear ih hT hS hsz hszL hZ hz2 hok
  go_enter Tryz.func82, Tryz.ntmps82
  go_upto_region 2 with fail
  try rw [show w.heap.size + 1 + 1 = w.heap.size + 2 from rfl]
  generalize (((w.alloc (.cells #[.string n, .string s, .slice a L.length cap] 24)).alloc (.cells #[.string ⟨#[]⟩, .string ⟨#[]⟩, .slice none 0 0] 24)).alloc (.cells #[.string n, .string s, .slice none 0 0] 24)) = w1 at *
  have x0 := cellRow HB2.out 0 (.string n) rfl
  have x1 := cellRow HB2.out 1 (.string s) rfl
  have x2 := cellRow HB2.out 2 (.slice a L.length cap) rfl
  have u0 := cellRow HB4.out 0 (.string n) rfl
  have u1 := cellRow HB4.out 1 (.string s) rfl
  have u2 := cellRow HB4.out 2 (.slice none 0 0) rfl
  have f4 := fun i => frozenRow HB4.out i
  by_cases hs0 : s = nul
  rotate_left
  · rw [decide_eq_false hs0] at t1
    have hl : n.size + suf.size ≤ 100000 := HOK.out (n, s) (vof_self hs0 L)
    obtain rfl : ZT = vr (n ++ suf) s := by rw [← HZT.out]; exact sbT_var _ hs0 L
    have hok1 : OKV = nmB (n ++ suf) := by
      rw [← HOKV.out]
      unfold okR
      have hLn : L = [] := HNP.out (.mk n s L) (by rw [sbts_eq]; exact List.mem_cons_self ..) hs0
      rw [hLn, vof_vr hs0]
      simp
    have HOK1 := Lib.hid hok1
    clear hs0 hok1
    go_wp2_with fail
    have hb5 := setBlock HB4.out 0 (.string (n ++ suf))
    have HB5 : Hid ((w1.setCell ⟨w.heap.size + 2, 0, none⟩ (.string (n ++ suf))).heap[w.heap.size + 2]? = some (.cells #[.string (n ++ suf), .string s, .slice none 0 0] 24 (0, 0))) := Lib.hid (by simpa using hb5)
    have hu5 := (Upd.refl (fun k => k = w.heap.size + 2) w1).setCell (p := ⟨w.heap.size + 2, 0, none⟩) (.inl rfl) (.string (n ++ suf))
    have HB35 := Lib.hid (hu5.heap HB3.out (by omega))
    have HE5 : Hid (Ext w (w1.setCell ⟨w.heap.size + 2, 0, none⟩ (.string (n ++ suf)))) := Lib.hid (HZ.out.trans' hu5 (fun j hj e => by omega))
    have HS5 : Hid (w.heap.size + 3 ≤ (w1.setCell ⟨w.heap.size + 2, 0, none⟩ (.string (n ++ suf))).heap.size) := Lib.hid (Nat.le_trans HZ2.out hu5.size)
    have HIN := Lib.hid (fun W => rIsName_x (n ++ suf) W)
    rw [← HOK1.out] at HIN
    generalize w1.setCell ⟨w.heap.size + 2, 0, none⟩ (.string (n ++ suf)) = w5 at *
    clear hb5 hu5 x0 x1 x2 u0 u1 u2 f4 t1 HB2 HB4
    have u0 := cellRow HB5.out 0 (.string (n ++ suf)) rfl
    have u1 := cellRow HB5.out 1 (.string s) rfl
    have u2 := cellRow HB5.out 2 (.slice none 0 0) rfl
    have HW5 : Hid (Ext w5 w5) := Lib.hid (Upd.refl _ _)
    go_region_law (first
      | (go_simp; refine (HIN.out w5.drew).mono ?_; rintro e w6 ⟨rfl, hw6⟩; have HW6 : Hid (Ext w5 w6) := Lib.hid (((Upd.refl (fun _ => False) w5).drewN' 1).trans hw6); have v0 := HW6.out.cell u0 (fun h => h); have v1 := HW6.out.cell u1 (fun h => h); have v2 := HW6.out.cell u2 (fun h => h); have HB36 := Lib.hid (HW6.out.heap HB35.out (fun h => h)); have d0 := cellRow HB36.out 0 (.string ⟨#[]⟩) rfl; have d1 := cellRow HB36.out 1 (.string ⟨#[]⟩) rfl; have d2 := cellRow HB36.out 2 (.slice none 0 0) rfl; have f2 := fun i => frozenRow HB36.out i; clear hw6 HIN))
    all_goals
      go_wp2_with fail
      have HE6 := Lib.hid (HE5.out.trans HW6.out)
      have hr3 := st3_heap HB36.out (.string (n ++ suf)) (.string s) (.slice none 0 0)
      have hu := st3_upd' w6 (w.heap.size + 1) (.string (n ++ suf)) (.string s) (.slice none 0 0)
      have e0 := cellRow hr3 0 _ rfl
      have e1 := cellRow hr3 1 _ rfl
      have e2 := cellRow hr3 2 _ rfl
      refine bodyPost_ret (v := .tuple #[.agg #[.string (n ++ suf), .string s, .slice none 0 0], .bool OKV]) (by simp [results, Tryz.results82, go_sem, e0, e1, e2]) rfl ⟨vr (n ++ suf) s, none, 0, rfl, fun _ => ⟨rfl, fun _ => False, TlO.nil _ _ _, fun j hj => hj.elim⟩, HE6.out.trans' hu (fun j hj e => by omega)⟩
  rw [decide_eq_true hs0] at t1
  obtain rfl : ZT = .mk n nul (L.map (sbT (fun n s => vr (n ++ suf) s))) := by rw [← HZT.out, hs0]; exact sbT_opn _ n L
  have hok1 : OKV = L.all (okR suf) := by rw [← HOKV.out, hs0, okR_opn]
  have HOK1 := Lib.hid hok1
  have HOKL : Hid (∀ x ∈ L, ∀ f ∈ vof x, f.1.size + suf.size ≤ 100000) := Lib.hid (fun x hx f hf => HOK.out f (by
    rw [hs0, vof_op]
    exact List.mem_flatMap.2 ⟨x, hx, hf⟩))
  have HS0 := Lib.hid hs0
  clear hok1 hs0
  go_wp2_with fail
  clear x0 x1 x2 u0 u1 u2 f4 t1
  have HJ0 : Hid (CpJ 24 (w.heap.size + 3) w1 (L.map (sbT (fun n s => vr (n ++ suf) s))) (.slice none 0 0) [] (fun _ _ => False) 0) := Lib.hid ⟨rfl, ⟨rfl, .inl ⟨rfl, rfl⟩⟩, fun i hi => absurd hi (Nat.not_lt_zero _), fun i j hi => absurd hi (Nat.not_lt_zero _), fun i i' j hi => absurd hi (Nat.not_lt_zero _)⟩
  go_loopg [7] L.length (fun gk iv wr => ∃ (k : Nat) (lv : Value) (us : List Value) (Bk : Nat → Nat → Prop), iv = .int .i64 (k : Int) ∧ gk = L.length - k ∧ k ≤ L.length ∧ Hid (CpJ 24 (w.heap.size + 3) wr (L.map (sbT (fun n s => vr (n ++ suf) s))) lv us Bk k) ∧ Hid (wr.heap[w.heap.size]? = some (.cells #[.string n, .string s, .slice a L.length cap] 24 (0, 0))) ∧ Hid (wr.heap[w.heap.size + 1]? = some (.cells #[.string ⟨#[]⟩, .string ⟨#[]⟩, .slice none 0 0] 24 (0, 0))) ∧ Hid (wr.heap[w.heap.size + 2]? = some (.cells #[.string n, .string s, lv] 24 (0, 0))) ∧ Hid (Ext w wr) ∧ Hid (w.heap.size + 3 ≤ wr.heap.size) ∧ Hid (∀ j, j < k → okR suf (tg L j) = true))
  case atStart => exact ⟨0, _, _, _, rfl, rfl, Nat.zero_le _, HJ0, HB2, HB3, HB4, HZ, HZ2, Lib.hid (fun j hj => absurd hj (Nat.not_lt_zero _))⟩
  case round =>
    clear HJ0 HB2 HB3 HB4 HZ HZ2
    obtain ⟨k, lv, us, Bk, rfl, rfl, hk, HJ, HB2, HBr, HB3, HE, HSZ, HKO⟩ := hrel
    obtain ⟨la, lc, hlv⟩ := own_shape HJ.out.own
    subst hlv
    have b0 := cellRow HB2.out 0 (.string n) rfl
    have b1 := cellRow HB2.out 1 (.string s) rfl
    have b2 := cellRow HB2.out 2 (.slice a L.length cap) rfl
    by_cases hlt : k < L.length
    · obtain ⟨g, off, hga, _, hat⟩ := (HTL.out.ext HE.out).at_ (by omega)
      subst hga
      obtain ⟨xa, xc, q0, q1, q2, hkid⟩ := hat k hlt
      rw [← Nat.add_assoc] at q1 q2
      have z0 : (0 : Int) ≤ (k : Int) := by omega
      have z1 : (k : Int) < (L.length : Int) := by omega
      have z2 : decide ((k : Int) < (L.length : Int)) = true := decide_eq_true z1
      have z2' : decide (k < L.length) = true := decide_eq_true hlt
      have HIX := Lib.hid (HIH.out (tg L k) (tg_mem L k hlt) _ S wr ⟨xa, xc, rfl, hkid⟩ (fun j hj => Nat.lt_of_lt_of_le (HSS.out j hj) HE.out.size) (by have h1 := HSL.out; have h2 := size_mem (tg_mem L k hlt); omega) (HOKL.out _ (tg_mem L k hlt)) (HNP.out.kid (tg_mem L k hlt)))
      dsimp only [tV] at HIX
      have hokm : okR suf (tg L k) = false → OKV = false := fun h => by
        rw [HOK1.out, List.all_eq_false]
        exact ⟨tg L k, tg_mem L k hlt, by rw [h]; simp⟩
      have hokk : okR suf (tg L k) = true → ∀ j, j < k + 1 → okR suf (tg L j) = true := fun h j hj => by
        by_cases e : j < k
        · exact HKO.out j e
        · obtain rfl : j = k := by omega
          exact h
      have hzx : tg (L.map (sbT (fun n s => vr (n ++ suf) s))) k = sbT (fun n s => vr (n ++ suf) s) (tg L k) := by
        unfold tg
        rw [List.getD_eq_getElem?_getD, List.getD_eq_getElem?_getD, List.getElem?_map, List.getElem?_eq_getElem hlt]
        rfl
      obtain ⟨x, hx⟩ : ∃ x, tg L k = x := ⟨_, rfl⟩
      rw [hx] at q0 q1 q2 HIX hokm hokk hzx
      obtain ⟨ob, hob⟩ : ∃ b, okR suf x = b := ⟨_, rfl⟩
      rw [hob] at HIX hokm hokk
      have HOM := Lib.hid (And.intro hokm hokk)
      have HZX := Lib.hid hzx
      clear hat hkid hx hokm hokk hzx hob
      go_wp2_with fail
      refine HIX.out.mono ?_
      rintro e w5 ⟨q, ya, yc, rfl, hq, hw5⟩
      have HQ5 := Lib.hid hq
      have HW5 := Lib.hid hw5
      have HX6 := Lib.hid (hw5.alloc (.cells #[.string q.name, .string q.sort, .slice ya q.kids.length yc] 24))
      have HB26 := Lib.hid (allocOld (hw5.heap HB2.out (fun h => h)) (.cells #[.string q.name, .string q.sort, .slice ya q.kids.length yc] 24))
      have HBr6 := Lib.hid (allocOld (hw5.heap HBr.out (fun h => h)) (.cells #[.string q.name, .string q.sort, .slice ya q.kids.length yc] 24))
      have HB36 := Lib.hid (allocOld (hw5.heap HB3.out (fun h => h)) (.cells #[.string q.name, .string q.sort, .slice ya q.kids.length yc] 24))
      have HB86 := Lib.hid (alloc0 w5 (.cells #[.string q.name, .string q.sort, .slice ya q.kids.length yc] 24))
      clear hq hw5 HIX b0 b1 b2 q0 q1 q2
      cases ob with
      | false =>
        obtain rfl : OKV = false := HOM.out.1 rfl
        have HE6 := Lib.hid (HE.out.trans HX6.out)
        have d0 := cellRow HBr6.out 0 (.string ⟨#[]⟩) rfl
        have d1 := cellRow HBr6.out 1 (.string ⟨#[]⟩) rfl
        have d2 := cellRow HBr6.out 2 (.slice none 0 0) rfl
        have f2 := fun i => frozenRow HBr6.out i
        go_wp2_with fail
        have hr3 := st3_heap HBr6.out (.string ⟨#[]⟩) (.string ⟨#[]⟩) (.slice none 0 0)
        have hu := st3_upd' (w5.alloc (.cells #[.string q.name, .string q.sort, .slice ya q.kids.length yc] 24)) (w.heap.size + 1) (.string ⟨#[]⟩) (.string ⟨#[]⟩) (.slice none 0 0)
        have e0 := cellRow hr3 0 _ rfl
        have e1 := cellRow hr3 1 _ rfl
        have e2 := cellRow hr3 2 _ rfl
        refine bodyPost_ret (v := .tuple #[.agg #[.string ⟨#[]⟩, .string ⟨#[]⟩, .slice none 0 0], .bool false]) (by simp [results, Tryz.results82, go_sem, e0, e1, e2]) rfl (by refine ⟨.mk nul nul [], none, 0, rfl, ?_⟩; first | exact ⟨(fun h => by cases h), HE6.out.trans' hu (fun j hj e => by omega)⟩ | exact HE6.out.trans' hu (fun j hj e => by omega))
      | true =>
        obtain ⟨hqz, Bx, hTx, hBx⟩ := HQ5.out rfl
        have HTX := Lib.hid hTx
        have HBX := Lib.hid hBx
        have HQZ := Lib.hid hqz
        have HKO2 := Lib.hid (HOM.out.2 rfl)
        have k0 := cellRow HB86.out 0 (.string q.name) rfl
        have k1 := cellRow HB86.out 1 (.string q.sort) rfl
        have k2 := cellRow HB86.out 2 (.slice ya q.kids.length yc) rfl
        have c2 := cellRow HB36.out 2 (.slice la k lc) rfl
        have HOW6 := Lib.hid (((own_kept HJ.out.own HW5.out (fun _ _ h => h)).alloc (.cells #[.string q.name, .string q.sort, .slice ya q.kids.length yc] 24)).alloc (.cells #[.string q.name, .string q.sort, .slice ya q.kids.length yc] 24))
        have hs6 : w.heap.size + 3 ≤ ((w5.alloc (.cells #[.string q.name, .string q.sort, .slice ya q.kids.length yc] 24)).alloc (.cells #[.string q.name, .string q.sort, .slice ya q.kids.length yc] 24)).heap.size := by have h1 := HW5.out.size; have h2 := HSZ.out; simp; omega
        obtain ⟨iT, hi, hz0, hz1, hz2⟩ := info_parts infoT
        clear hTx hBx hqz
        generalize hw6 : w5.alloc (.cells #[.string q.name, .string q.sort, .slice ya q.kids.length yc] 24) = w6 at *
        go_wp2_with (at_builtin; refine wpList_append_at _ rfl (.tmp 48) (.tmp 50) 22 rfl (w.heap.size + 3) 24 iT (.agg #[.string ⟨#[]⟩, .string ⟨#[]⟩, .slice none 0 0]) 3 56 Tryz.underlying22 hi hz0 hz1 hz2 rfl (by decide) _ _ _ rfl HOW6.out _ 1 1 [Value.string q.name, .string q.sort, .slice ya q.kids.length yc] rfl rfl ?c1 ?c2 ?c3 ?c4 hs6 ?_)
        case c1 => exact new3 w6 _ _ _ 24
        case c2 => intro u hu; simp at hu; rcases hu with h | h | h <;> (subst h; rfl)
        case c3 => unfold maxLen; omega
        case c4 => omega
        intro v7 w7 hG7
        obtain ⟨a7, c7, hv7⟩ := own_shape hG7.own
        subst hv7
        have HRN : ¬ (Value.slice la k lc).ownBlock = some (w.heap.size + 2) := fun e => by have h1 := (HJ.out.own.lt _ e).1; omega
        have hB7 := hG7.upd.heap (allocOld HB36.out (.cells #[.string q.name, .string q.sort, .slice ya q.kids.length yc] 24)) HRN
        have f7 := fun i => frozenRow hB7 i
        have c2' := cellRow hB7 2 (.slice la k lc) rfl
        have HS8 := Lib.hid ((Upd.refl (fun j => j = w.heap.size + 2) w7).setCell (p := ⟨w.heap.size + 2, 2, none⟩) (.inl rfl) (.slice a7 (k + 1) c7))
        have HX7 : Hid (Ext wr w6) := HX6
        have HU8 : Hid (Upd (fun j => (Value.slice la k lc).ownBlock = some j ∨ j = w.heap.size + 2) wr (w7.setCell ⟨w.heap.size + 2, 2, none⟩ (.slice a7 (k + 1) c7))) := Lib.hid (((((HX7.out.alloc (.cells #[.string q.name, .string q.sort, .slice ya q.kids.length yc] 24)).mono (fun _ _ x => x.elim)).trans (hG7.upd.mono (fun _ _ e => .inl e)))).trans (HS8.out.mono (fun _ _ e => .inr e)))
        have hsz6 : w5.heap.size ≤ w6.heap.size := by rw [← hw6]; simp
        have HT6 : TlO 24 w6 Bx q.kids (.slice ya q.kids.length yc) := by rw [← hw6]; exact HTX.out.kept ((Upd.refl (fun _ => False) w5).alloc (.cells #[.string q.name, .string q.sort, .slice ya q.kids.length yc] 24)) (fun _ _ h => h)
        have HJ8 := Lib.hid (HJ.out.grow (x := q) (by rw [List.length_map]; exact hlt) (by rw [HZX.out, HQZ.out]) (Nat.lt_succ_self (w.heap.size + 2)) HSZ.out (Upd.refl _ _) HX7.out HT6 (fun j hj => ⟨(HBX.out j hj).1, Nat.lt_of_lt_of_le (HBX.out j hj).2 hsz6⟩) ((Upd.refl (fun _ => False) w6).alloc (.cells #[.string q.name, .string q.sort, .slice ya q.kids.length yc] 24)) hG7 HS8.out)
        have HE8 : Hid (Ext w (w7.setCell ⟨w.heap.size + 2, 2, none⟩ (.slice a7 (k + 1) c7))) := Lib.hid (HE.out.trans' HU8.out (fun j hj e => by
          rcases e with e | e
          · have h1 := (HJ.out.own.lt j e).1; omega
          · omega))
        have hne : ∀ j, j < w.heap.size + 2 → ¬ ((Value.slice la k lc).ownBlock = some j ∨ j = w.heap.size + 2) := fun j hj e => by
          rcases e with e | e
          · have h1 := (HJ.out.own.lt _ e).1; omega
          · omega
        have HB28 := Lib.hid (HU8.out.heap HB2.out (hne _ (by omega)))
        have HBr8 := Lib.hid (HU8.out.heap HBr.out (hne _ (by omega)))
        have hb38 := setBlock hB7 2 (.slice a7 (k + 1) c7)
        have HB38 : Hid ((w7.setCell ⟨w.heap.size + 2, 2, none⟩ (.slice a7 (k + 1) c7)).heap[w.heap.size + 2]? = some (.cells #[.string n, .string s, .slice a7 (k + 1) c7] 24 (0, 0))) := Lib.hid (by simpa using hb38)
        have HS9 : Hid (w.heap.size + 3 ≤ (w7.setCell ⟨w.heap.size + 2, 2, none⟩ (.slice a7 (k + 1) c7)).heap.size) := Lib.hid (Nat.le_trans HSZ.out HU8.out.size)
        clear hb38 hne hG7 HT6 hsz6 hB7 hi hz0 hz1 hz2
        go_wp2_with fail
        go_roundg (L.length - (k + 1))
        case measure => omega
        case rel => exact ⟨k + 1, _, _, _, by go_num, rfl, by omega, HJ8, HB28, HBr8, HB38, HE8, HS9, HKO2⟩
    · obtain rfl : k = L.length := by omega
      have z2 : decide ((L.length : Int) < (L.length : Int)) = false := decide_eq_false (by omega)
      obtain rfl : OKV = true := by
        rw [HOK1.out, List.all_eq_true]
        intro x hx
        obtain ⟨j, hj, e⟩ := List.getElem_of_mem hx
        have := HKO.out j hj
        unfold tg at this
        rw [List.getD_eq_getElem?_getD, List.getElem?_eq_getElem hj] at this
        rw [← e]
        exact this
      have hfin := HJ.out
      have hll : (L.map (sbT (fun n s => vr (n ++ suf) s))).length = L.length := List.length_map ..
      rw [← hll] at hfin
      have hfin := hfin.fin
      have HFIN := Lib.hid hfin
      rw [hll] at HFIN
      have c0 := cellRow HB3.out 0 (.string n) rfl
      have c1 := cellRow HB3.out 1 (.string s) rfl
      have c2 := cellRow HB3.out 2 (.slice la L.length lc) rfl
      have f2 := fun i => frozenRow HBr.out i
      have d0 := cellRow HBr.out 0 (.string ⟨#[]⟩) rfl
      have d1 := cellRow HBr.out 1 (.string ⟨#[]⟩) rfl
      have d2 := cellRow HBr.out 2 (.slice none 0 0) rfl
      clear hfin hll
      go_wp2_with fail
      have hr3 := st3_heap HBr.out (.string n) (.string s) (.slice la L.length lc)
      have hu := st3_upd' wr (w.heap.size + 1) (.string n) (.string s) (.slice la L.length lc)
      have e0 := cellRow hr3 0 _ rfl
      have e1 := cellRow hr3 1 _ rfl
      have e2 := cellRow hr3 2 _ rfl
      refine bodyPost_ret (v := .tuple #[.agg #[.string n, .string s, .slice la L.length lc], .bool true]) (by simp [results, Tryz.results82, go_sem, e0, e1, e2]) rfl ⟨.mk n nul (L.map (sbT (fun n s => vr (n ++ suf) s))), la, lc, by simp [HS0.out], ⟨rfl, fun j => w.heap.size + 3 ≤ j ∧ j < wr.heap.size, by simpa using HFIN.out.kept hu (fun j hj e => by have h1 := hj.1; omega), fun j hj => ⟨by have h1 := hj.1; omega, Nat.lt_of_lt_of_le hj.2 hu.size⟩⟩, HE.out.trans' hu (fun j hj e => by omega)⟩

end Go.Proofs.YtlkcjmaiahnodaaGreatDoor

/- Rename, of the reference. -/
namespace Go.Proofs.YtlkcjmaiahnodaaGreatDoor
open Go.RowKit Go.Hw Go
set_option linter.unusedVariables false
set_option linter.unusedSimpArgs false

open Tm Go.Sort Go.Proofs Go.ChangeMaps
theorem okR_vars {suf : By} {t : Tm} (h : wf nmB t = true) : okR suf t = (varsT t).all fun v => nmB (v.1 ++ suf) := by
  unfold okR
  rw [Bool.eq_iff_iff, List.all_eq_true, List.all_eq_true]
  exact ⟨fun g x hx => g x (((varsT_mem h).2 x).1 hx), fun g x hx => g x (((varsT_mem h).2 x).2 hx)⟩
set_option maxRecDepth 100000 in
set_option maxHeartbeats 2000000 in
theorem rrename_x (t : Tm) (v : Value) (suf : By) (w : World) (hR : TmR (fun k => k < w.heap.size) w t v) (hsz : t.size ≤ 100000) (hok : ∀ f ∈ vof t, f.1.size + suf.size ≤ 100000) :
    Calls Tryz.prog 21 #[v, .string suf] w fun e w' => ∃ r B, e = .returned (.tuple #[tV (rnF suf t).1 r, .int .i64 (rnF suf t).2]) ∧ TlO 24 w' B (rnF suf t).1.kids r ∧ (∀ j, B j → w.heap.size ≤ j ∧ j < w'.heap.size) ∧ Ext w w' := by
  have HR := Lib.hid hR
  obtain ⟨Z, hZZ⟩ : ∃ Z, rnF suf t = Z := ⟨_, rfl⟩
  rw [hZZ]
  have HZZ := Lib.hid hZZ
  clear hZZ
  obtain ⟨a, cap, rfl, hT⟩ := hR
  have HF := Lib.hid (fun W (hW : Ext w W) => rformed_x t _ _ W (HR.out.ext hW))
  have HSZ := Lib.hid hsz
  have HOK := Lib.hid hok
  dsimp only [tV] at HF ⊢
  have hZ := ((Upd.refl (fun _ => False) w).alloc (.cells #[.string t.name, .string t.sort, .slice a t.kids.length cap] 24)).alloc (.cells #[.string ⟨#[]⟩, .string ⟨#[]⟩, .slice none 0 0] 24)
  have H2 := Lib.hid (allocOld (alloc0 w (.cells #[.string t.name, .string t.sort, .slice a t.kids.length cap] 24)) (.cells #[.string ⟨#[]⟩, .string ⟨#[]⟩, .slice none 0 0] 24))
  have H4 := Lib.hid (alloc_at (w.alloc (.cells #[.string t.name, .string t.sort, .slice a t.kids.length cap] 24)) (.cells #[.string ⟨#[]⟩, .string ⟨#[]⟩, .slice none 0 0] 24) (n := w.heap.size + 1) (by simp))
  have x0 := cellRow H2.out 0 (.string t.name) rfl
  have x1 := cellRow H2.out 1 (.string t.sort) rfl
  have x2 := cellRow H2.out 2 (.slice a t.kids.length cap) rfl
  have HZ := Lib.hid hZ
  clear hT hsz hok hZ
  go_enter Tryz.func21, Tryz.ntmps21
  go_wp2_with fail
  generalize ((w.alloc (.cells #[.string t.name, .string t.sort, .slice a t.kids.length cap] 24)).alloc (.cells #[.string ⟨#[]⟩, .string ⟨#[]⟩, .slice none 0 0] 24)) = wa at *
  refine (HF.out _ HZ.out).mono ?_
  rintro e w3 ⟨rfl, hw3⟩
  have HE3 := Lib.hid (HZ.out.trans hw3)
  have H23 := Lib.hid (hw3.heap H2.out (fun h => h))
  have H43 := Lib.hid (hw3.heap H4.out (fun h => h))
  clear hw3 x0 x1 x2 H2 H4 HZ HF
  cases hwf : wf nmB t with
  | false =>
    obtain rfl : Z = (.mk nul nul [], 1) := by rw [← HZZ.out]; unfold rnF; rw [hwf]; rfl
    clear hwf
    have d0 := cellRow H43.out 0 (.string ⟨#[]⟩) rfl
    have d1 := cellRow H43.out 1 (.string ⟨#[]⟩) rfl
    have d2 := cellRow H43.out 2 (.slice none 0 0) rfl
    have f2 := fun i => frozenRow H43.out i
    go_wp2_with fail
    have hr3 := st3_heap H43.out (.string ⟨#[]⟩) (.string ⟨#[]⟩) (.slice none 0 0)
    have hu := st3_upd' w3 (w.heap.size + 1) (.string ⟨#[]⟩) (.string ⟨#[]⟩) (.slice none 0 0)
    have e0 := cellRow hr3 0 _ rfl
    have e1 := cellRow hr3 1 _ rfl
    have e2 := cellRow hr3 2 _ rfl
    refine bodyPost_ret (v := .tuple #[.agg #[.string ⟨#[]⟩, .string ⟨#[]⟩, .slice none 0 0], .int .i64 1]) (by simp [results, Tryz.results21, go_sem, e0, e1, e2]) rfl (by first | exact ⟨.slice none 0 0, fun _ => False, rfl, TlO.nil _ _ _, fun j hj => hj.elim, HE3.out.trans' hu (fun j hj e => by omega)⟩ | exact ⟨.slice none 0 0, rfl, fun _ => False, TlO.nil _ _ _, fun j hj => hj.elim, HE3.out.trans' hu (fun j hj e => by omega)⟩)
  | true =>
    have HWF := Lib.hid hwf
    have HRD := Lib.hid (renamed_x suf t _ (fun k => k < w3.heap.size) w3 ((HR.out.ext HE3.out).weaken (fun k hk => Nat.lt_of_lt_of_le hk HE3.out.size)) (fun k h => h) HSZ.out HOK.out (wf_nop' hwf))
    have hov := okR_vars (suf := suf) hwf
    obtain ⟨ob, hob⟩ : ∃ b, okR suf t = b := ⟨_, rfl⟩
    rw [hob] at HRD hov
    have HOV := Lib.hid hov
    dsimp only [tV] at HRD
    clear hwf hob hov
    have x0 := cellRow H23.out 0 (.string t.name) rfl
    have x1 := cellRow H23.out 1 (.string t.sort) rfl
    have x2 := cellRow H23.out 2 (.slice a t.kids.length cap) rfl
    go_wp2_with fail
    refine HRD.out.mono ?_
    rintro e w5 ⟨q, ya, yc, rfl, hq, hw5⟩
    have HQ5 := Lib.hid hq
    have HX6 := Lib.hid (HE3.out.trans (hw5.alloc (.cells #[.string q.name, .string q.sort, .slice ya q.kids.length yc] 24)))
    have H46 := Lib.hid (allocOld (hw5.heap H43.out (fun h => h)) (.cells #[.string q.name, .string q.sort, .slice ya q.kids.length yc] 24))
    have H86 := Lib.hid (alloc0 w5 (.cells #[.string q.name, .string q.sort, .slice ya q.kids.length yc] 24))
    have HW3 := Lib.hid HE3.out.size
    have HR3 : Hid (w.heap.size + 1 < w3.heap.size) := Lib.hid (Array.getElem?_eq_some_iff.1 H43.out).1
    have hX := (Upd.refl (fun _ => False) w5).alloc (.cells #[.string q.name, .string q.sort, .slice ya q.kids.length yc] 24)
    have HX := Lib.hid hX
    clear hq hw5 HRD x0 x1 x2 hX
    cases ob with
    | false =>
      obtain rfl : Z = (.mk nul nul [], 9) := by rw [← HZZ.out]; unfold rnF; rw [HWF.out, ← HOV.out]; rfl
      have d0 := cellRow H46.out 0 (.string ⟨#[]⟩) rfl
      have d1 := cellRow H46.out 1 (.string ⟨#[]⟩) rfl
      have d2 := cellRow H46.out 2 (.slice none 0 0) rfl
      have f2 := fun i => frozenRow H46.out i
      go_wp2_with fail
      have hr3 := st3_heap H46.out (.string ⟨#[]⟩) (.string ⟨#[]⟩) (.slice none 0 0)
      have hu := st3_upd' (w5.alloc (.cells #[.string q.name, .string q.sort, .slice ya q.kids.length yc] 24)) (w.heap.size + 1) (.string ⟨#[]⟩) (.string ⟨#[]⟩) (.slice none 0 0)
      have e0 := cellRow hr3 0 _ rfl
      have e1 := cellRow hr3 1 _ rfl
      have e2 := cellRow hr3 2 _ rfl
      refine bodyPost_ret (v := .tuple #[.agg #[.string ⟨#[]⟩, .string ⟨#[]⟩, .slice none 0 0], .int .i64 9]) (by simp [results, Tryz.results21, go_sem, e0, e1, e2]) rfl (by first | exact ⟨.slice none 0 0, fun _ => False, rfl, TlO.nil _ _ _, fun j hj => hj.elim, HX6.out.trans' hu (fun j hj e => by omega)⟩ | exact ⟨.slice none 0 0, rfl, fun _ => False, TlO.nil _ _ _, fun j hj => hj.elim, HX6.out.trans' hu (fun j hj e => by omega)⟩)
    | true =>
      obtain ⟨hqz, Bx, hTx, hBx⟩ := HQ5.out rfl
      obtain rfl : Z = (q, 0) := by rw [← HZZ.out, hqz]; unfold rnF; rw [HWF.out, ← HOV.out]; rfl
      have HTX := Lib.hid (hTx.kept HX.out (fun _ _ h => h))
      have HBX := Lib.hid hBx
      clear hqz hTx hBx
      have k0 := cellRow H86.out 0 (.string q.name) rfl
      have k1 := cellRow H86.out 1 (.string q.sort) rfl
      have k2 := cellRow H86.out 2 (.slice ya q.kids.length yc) rfl
      have d0 := cellRow H46.out 0 (.string ⟨#[]⟩) rfl
      have d1 := cellRow H46.out 1 (.string ⟨#[]⟩) rfl
      have d2 := cellRow H46.out 2 (.slice none 0 0) rfl
      have f2 := fun i => frozenRow H46.out i
      go_wp2_with fail
      generalize w5.alloc (.cells #[.string q.name, .string q.sort, .slice ya q.kids.length yc] 24) = w6 at *
      have hr3 := st3_heap H46.out (.string q.name) (.string q.sort) (.slice ya q.kids.length yc)
      have hu := st3_upd' w6 (w.heap.size + 1) (.string q.name) (.string q.sort) (.slice ya q.kids.length yc)
      have e0 := cellRow hr3 0 _ rfl
      have e1 := cellRow hr3 1 _ rfl
      have e2 := cellRow hr3 2 _ rfl
      have h1 := HR3.out
      have h2 := HW3.out
      have h4 := HX.out.size
      refine bodyPost_ret (v := .tuple #[.agg #[.string q.name, .string q.sort, .slice ya q.kids.length yc], .int .i64 0]) (by simp [results, Tryz.results21, go_sem, e0, e1, e2]) rfl (by first | exact ⟨.slice ya q.kids.length yc, Bx, rfl, HTX.out.kept hu (fun j hj e => by have h3 := (HBX.out j hj).1; omega), fun j hj => ⟨by have h3 := (HBX.out j hj).1; omega, Nat.lt_of_lt_of_le (HBX.out j hj).2 (Nat.le_trans h4 hu.size)⟩, HX6.out.trans' hu (fun j hj e => by omega)⟩ | exact ⟨.slice ya q.kids.length yc, rfl, Bx, HTX.out.kept hu (fun j hj e => by have h3 := (HBX.out j hj).1; omega), fun j hj => ⟨by have h3 := (HBX.out j hj).1; omega, Nat.lt_of_lt_of_le (HBX.out j hj).2 (Nat.le_trans h4 hu.size)⟩, HX6.out.trans' hu (fun j hj e => by omega)⟩)

end Go.Proofs.YtlkcjmaiahnodaaGreatDoor

/- Find and copied, of the reference. -/
namespace Go.Proofs.YtlkcjmaiahnodaaGreatDoor
open Go.RowKit Go.Hw Go
set_option linter.unusedVariables false
set_option linter.unusedSimpArgs false

open Tm Go.Sort Go.Proofs Go.ChangeMaps
def fixB (B : List Bd) (n : By) : Int := match B.findIdx? (fun b => decide (b.1 = n)) with
  | some i => (i : Int)
  | none => -1
set_option maxRecDepth 100000 in
set_option maxHeartbeats 2000000 in
theorem find05_x (B : List Bd) (v : Value) (nm : By) (R S : Nat → Prop) (w : World) (h : BnR R S w v B) (hl : B.length ≤ 1000000) : Calls Tryz.prog 100 #[v, .string nm] w fun e w' => e = .returned (.int .i64 (fixB B nm)) ∧ w' = w := by
  have H := Lib.hid h
  obtain ⟨a, c, rfl⟩ := h.shape
  obtain ⟨X, hX⟩ : ∃ X, fixB B nm = X := ⟨_, rfl⟩
  rw [hX]
  have HX := Lib.hid hX
  clear h hX
  go_enter Tryz.func100, Tryz.ntmps100
  go_wp2_with fail
  go_loopg [5] B.length (fun gk iv wr => ∃ k : Nat, iv = .int .i64 (k : Int) ∧ gk = B.length - k ∧ k ≤ B.length ∧ Hid (∀ j, j < k → (Go.Hw.bg B j).1 ≠ nm) ∧ w = wr)
  case atStart => exact ⟨0, rfl, rfl, Nat.zero_le _, Lib.hid (fun j hj => absurd hj (Nat.not_lt_zero _)), rfl⟩
  case round =>
    obtain ⟨k, rfl, rfl, hk, HQ, rfl⟩ := hrel
    by_cases hlt : k < B.length
    · obtain ⟨g, o, rfl, _, hat⟩ := H.out.at_ (by omega)
      obtain ⟨ka, kc, p0, p1, p2, p3, p4, hT⟩ := hat k hlt
      have hbk : Go.Hw.bg B k = B[k] := by unfold Go.Hw.bg; rw [List.getD_eq_getElem?_getD, List.getElem?_eq_getElem hlt]; rfl
      obtain ⟨x, hx⟩ : ∃ x, (Go.Hw.bg B k).1 = x := ⟨_, rfl⟩
      rw [hx] at p0
      have HXE := Lib.hid hx
      have HBK := Lib.hid hbk
      have z0 : (0 : Int) ≤ (k : Int) := by omega
      have z1 : (k : Int) < (B.length : Int) := by omega
      have z2 : decide ((k : Int) < (B.length : Int)) = true := decide_eq_true z1
      have z2' : decide (k < B.length) = true := decide_eq_true hlt
      have s1 := str_dc x nm
      clear hat p1 p2 p3 p4 hT hx hbk
      by_cases e : x = nm
      · rw [decide_eq_true e] at s1
        have hr : X = (k : Int) := by
          rw [← HX.out]
          unfold fixB
          have h1 : B.findIdx? (fun b => decide (b.1 = nm)) = some k := by
            rw [List.findIdx?_eq_some_iff_getElem]
            refine ⟨hlt, ?_, fun j hj => ?_⟩
            · rw [← HBK.out, HXE.out, e]; simp
            · have h2 := HQ.out j hj
              unfold Go.Hw.bg at h2
              rw [List.getD_eq_getElem?_getD, List.getElem?_eq_getElem (by omega)] at h2
              simpa using h2
          rw [h1]
        subst hr
        clear e
        go_wp2_with fail
        go_ret
        exact ⟨rfl, rfl⟩
      · rw [decide_eq_false e] at s1
        have HQ2 : Hid (∀ j, j < k + 1 → (Go.Hw.bg B j).1 ≠ nm) := Lib.hid (fun j hj => by
          by_cases hjk : j < k
          · exact HQ.out j hjk
          · obtain rfl : j = k := by omega
            rw [HXE.out]; exact e)
        clear e
        go_wp2_with fail
        go_roundg (B.length - (k + 1))
        case measure => omega
        case rel => exact ⟨k + 1, by go_num, rfl, by omega, HQ2, rfl⟩
    · obtain rfl : k = B.length := by omega
      have z2 : decide ((B.length : Int) < (B.length : Int)) = false := decide_eq_false (by omega)
      have hr : X = -1 := by
        rw [← HX.out]
        unfold fixB
        have h1 : B.findIdx? (fun b => decide (b.1 = nm)) = none := by
          rw [List.findIdx?_eq_none_iff]
          intro b hb
          obtain ⟨j, hj, e⟩ := List.getElem_of_mem hb
          have h2 := HQ.out j hj
          unfold Go.Hw.bg at h2
          rw [List.getD_eq_getElem?_getD, List.getElem?_eq_getElem hj] at h2
          rw [← e]
          simpa using h2
        rw [h1]
      subst hr
      go_wp2_with fail
      go_ret
      exact ⟨rfl, rfl⟩
set_option maxRecDepth 100000 in
set_option maxHeartbeats 2000000 in
theorem cop05_x : ∀ (t : Tm) (v : Value) (S : Nat → Prop) (w : World), TmR S w t v → (∀ k, S k → k < w.heap.size) → t.size ≤ 100000 →
    Calls Tryz.prog 101 #[v] w fun e w' => ∃ r B, e = .returned (tV t r) ∧ TlO 24 w' B t.kids r ∧ (∀ j, B j → w.heap.size ≤ j ∧ j < w'.heap.size) ∧ Ext w w' := by
  refine Tm.ind (fun n s L ih => ?_)
  intro v S w hT hS hsz
  obtain ⟨a, cap, rfl, hT⟩ := hT
  dsimp only [tV, Tm.name, Tm.sort, Tm.kids] at hT ⊢
  have HTL := Lib.hid hT
  have HIH := Lib.hid ih
  have HSS := Lib.hid hS
  have hszL : sizes L + 1 ≤ 100000 := by rw [size_eq] at hsz; simp only [Tm.kids] at hsz; omega
  have HSL := Lib.hid hszL
  have hlL : L.length ≤ 100000 := by have h1 := length_le_sizes L; omega
  have hZ := (((Upd.refl (fun _ => False) w).alloc (.cells #[.string n, .string s, .slice a L.length cap] 24)).alloc (.cells #[.string ⟨#[]⟩, .string ⟨#[]⟩, .slice none 0 0] 24)).alloc (.cells #[.string n, .string s, .slice none 0 0] 24)
  have HB2 := Lib.hid (allocOld (allocOld (alloc0 w (.cells #[.string n, .string s, .slice a L.length cap] 24)) (.cells #[.string ⟨#[]⟩, .string ⟨#[]⟩, .slice none 0 0] 24)) (.cells #[.string n, .string s, .slice none 0 0] 24))
  have HB3 := Lib.hid (allocOld (alloc_at (w.alloc (.cells #[.string n, .string s, .slice a L.length cap] 24)) (.cells #[.string ⟨#[]⟩, .string ⟨#[]⟩, .slice none 0 0] 24) (n := w.heap.size + 1) (by simp)) (.cells #[.string n, .string s, .slice none 0 0] 24))
  have HB4 := Lib.hid (alloc_at ((w.alloc (.cells #[.string n, .string s, .slice a L.length cap] 24)).alloc (.cells #[.string ⟨#[]⟩, .string ⟨#[]⟩, .slice none 0 0] 24)) (.cells #[.string n, .string s, .slice none 0 0] 24) (n := w.heap.size + 2) (by simp))
  have hz2 : w.heap.size + 3 ≤ (((w.alloc (.cells #[.string n, .string s, .slice a L.length cap] 24)).alloc (.cells #[.string ⟨#[]⟩, .string ⟨#[]⟩, .slice none 0 0] 24)).alloc (.cells #[.string n, .string s, .slice none 0 0] 24)).heap.size := by simp
  have HZ := Lib.hid hZ
  have HZ2 := Lib.hid hz2
  clear ih hT hS hsz hszL hZ hz2
  go_enter Tryz.func101, Tryz.ntmps101
  go_upto_region 2 with fail
  try rw [show w.heap.size + 1 + 1 = w.heap.size + 2 from rfl]
  generalize (((w.alloc (.cells #[.string n, .string s, .slice a L.length cap] 24)).alloc (.cells #[.string ⟨#[]⟩, .string ⟨#[]⟩, .slice none 0 0] 24)).alloc (.cells #[.string n, .string s, .slice none 0 0] 24)) = w1 at *
  go_wp2_with fail
  have HJ0 : Hid (CpJ 24 (w.heap.size + 3) w1 L (.slice none 0 0) [] (fun _ _ => False) 0) := Lib.hid ⟨rfl, ⟨rfl, .inl ⟨rfl, rfl⟩⟩, fun i hi => absurd hi (Nat.not_lt_zero _), fun i j hi => absurd hi (Nat.not_lt_zero _), fun i i' j hi => absurd hi (Nat.not_lt_zero _)⟩
  go_loopg [4] L.length (fun gk iv wr => ∃ (k : Nat) (lv : Value) (us : List Value) (Bk : Nat → Nat → Prop), iv = .int .i64 (k : Int) ∧ gk = L.length - k ∧ k ≤ L.length ∧ Hid (CpJ 24 (w.heap.size + 3) wr L lv us Bk k) ∧ Hid (wr.heap[w.heap.size]? = some (.cells #[.string n, .string s, .slice a L.length cap] 24 (0, 0))) ∧ Hid (wr.heap[w.heap.size + 1]? = some (.cells #[.string ⟨#[]⟩, .string ⟨#[]⟩, .slice none 0 0] 24 (0, 0))) ∧ Hid (wr.heap[w.heap.size + 2]? = some (.cells #[.string n, .string s, lv] 24 (0, 0))) ∧ Hid (Ext w wr) ∧ Hid (w.heap.size + 3 ≤ wr.heap.size))
  case atStart => exact ⟨0, _, _, _, rfl, rfl, Nat.zero_le _, HJ0, HB2, HB3, HB4, HZ, HZ2⟩
  case round =>
    clear HJ0 HB2 HB3 HB4 HZ HZ2
    obtain ⟨k, lv, us, Bk, rfl, rfl, hk, HJ, HB2, HBr, HB3, HE, HSZ⟩ := hrel
    obtain ⟨la, lc, hlv⟩ := own_shape HJ.out.own
    subst hlv
    have b0 := cellRow HB2.out 0 (.string n) rfl
    have b1 := cellRow HB2.out 1 (.string s) rfl
    have b2 := cellRow HB2.out 2 (.slice a L.length cap) rfl
    by_cases hlt : k < L.length
    · obtain ⟨g, off, hga, _, hat⟩ := (HTL.out.ext HE.out).at_ (by omega)
      subst hga
      obtain ⟨xa, xc, q0, q1, q2, hkid⟩ := hat k hlt
      rw [← Nat.add_assoc] at q1 q2
      have z0 : (0 : Int) ≤ (k : Int) := by omega
      have z1 : (k : Int) < (L.length : Int) := by omega
      have z2 : decide ((k : Int) < (L.length : Int)) = true := decide_eq_true z1
      have z2' : decide (k < L.length) = true := decide_eq_true hlt
      have HIX := Lib.hid (fun W (hW : Ext wr W) => HIH.out (tg L k) (tg_mem L k hlt) _ S W ⟨xa, xc, rfl, hkid.ext hW⟩ (fun j hj => Nat.lt_of_lt_of_le (HSS.out j hj) (Nat.le_trans HE.out.size hW.size)) (by have h1 := HSL.out; have h2 := size_mem (tg_mem L k hlt); omega))
      dsimp only [tV] at HIX
      obtain ⟨z, hz⟩ : ∃ z, tg L k = z := ⟨_, rfl⟩
      have HZ := Lib.hid hz
      rw [hz] at HIX q0 q1 q2
      have c2 := cellRow HB3.out 2 (.slice la k lc) rfl
      have HRN : Hid (¬ (Value.slice la k lc).ownBlock = some (w.heap.size + 2)) := Lib.hid (fun e => by have h1 := (HJ.out.own.lt _ e).1; omega)
      have HKB : Hid (k ≤ 1000000) := Lib.hid (by omega)
      have HWR : Hid (Ext wr wr) := Lib.hid (Upd.refl _ _)
      obtain ⟨iT, hi, hz0, hz1, hz2⟩ := info_parts infoT
      clear hat hkid hz
      go_wp2_with fail
      go_region_law (first
        | (refine step_append_at _ (.tmp 18) (.tmp 25) 22 rfl (w.heap.size + 3) 24 iT (.agg #[.string ⟨#[]⟩, .string ⟨#[]⟩, .slice none 0 0]) 3 56 Tryz.underlying22 hi hz0 hz1 hz2 rfl (by decide) _ _ _ rfl HOW6.out _ 1 1 [Value.string z.name, .string z.sort, .slice ya z.kids.length yc] rfl rfl HNEW.out HONE.out HLM.out.1 HLM.out.2.1 HLM.out.2.2 ?_; intro v7 w7 hG7; obtain ⟨a7, c7, hv7⟩ := own_shape hG7.own; subst hv7; have hB7 := hG7.upd.heap (allocOld HB6.out (.cells #[.string z.name, .string z.sort, .slice ya z.kids.length yc] 24)) HRN.out; have f7 := fun i => frozenRow hB7 i; have c2 := cellRow hB7 2 (.slice la k lc) rfl; have HB7 := Lib.hid hB7; have HG7 := Lib.hid hG7; clear hG7 hB7)
        | (go_simp; refine (HIX.out wr.drew HWR.out.drew).mono ?_; rintro e w6 ⟨r, Bx, rfl, hT6, hb6, hw6⟩; obtain ⟨ya, yc, hry⟩ := TlO.shape hT6; subst hry; have HW6 : Hid (Ext wr w6) := Lib.hid (((Upd.refl (fun _ => False) wr).drewN' 1).trans hw6); have HT6 := Lib.hid hT6; have HBX6 : Hid (∀ j, Bx j → wr.heap.size ≤ j ∧ j < w6.heap.size) := Lib.hid hb6; have HB6 := Lib.hid (HW6.out.heap HB3.out (fun h => h)); have HOW6 : Hid ((w6.alloc (.cells #[.string z.name, .string z.sort, .slice ya z.kids.length yc] 24)).ownsRow (w.heap.size + 3) 24 3 (.slice la k lc) k (tCells (L.take k) us)) := Lib.hid ((own_kept HJ.out.own HW6.out (fun _ _ h => h)).alloc _); have HNEW : Hid (∀ (j : Nat) (u : Value), [Value.string z.name, .string z.sort, .slice ya z.kids.length yc][j]? = some u → (w6.alloc (.cells #[.string z.name, .string z.sort, .slice ya z.kids.length yc] 24)).cell? ((⟨w6.heap.size, 0, none⟩ : Addr).add j) = some u) := Lib.hid (new3 w6 _ _ _ 24); have HONE : Hid (∀ u ∈ [Value.string z.name, .string z.sort, .slice ya z.kids.length yc], u.oneCell' = true) := Lib.hid (fun u hu => by simp at hu; rcases hu with h | h | h <;> (subst h; rfl)); have HLM : Hid (k + 1 ≤ maxLen ∧ (k + 1) * 56 ≤ 140737488355328 ∧ w.heap.size + 3 ≤ (w6.alloc (.cells #[.string z.name, .string z.sort, .slice ya z.kids.length yc] 24)).heap.size) := Lib.hid ⟨by unfold maxLen; have := HKB.out; omega, by have := HKB.out; omega, by have h1 := HW6.out.size; have h2 := HSZ.out; simp; omega⟩; have c6 := HW6.out.cell c2 (fun h => h); have c7 := ((Upd.refl (fun _ => False) w6).alloc (.cells #[.string z.name, .string z.sort, .slice ya z.kids.length yc] 24)).cell c6 (fun h => h); clear hT6 hb6 hw6 HIX))
      all_goals
        go_wp2_with fail
        have HS8 := Lib.hid ((Upd.refl (fun j => j = w.heap.size + 2) w7).setCell (p := ⟨w.heap.size + 2, 2, none⟩) (.inl rfl) (.slice a7 (k + 1) c7))
        have HU8 : Hid (Upd (fun j => (Value.slice la k lc).ownBlock = some j ∨ j = w.heap.size + 2) wr (w7.setCell ⟨w.heap.size + 2, 2, none⟩ (.slice a7 (k + 1) c7))) := Lib.hid (((((HW6.out.alloc (.cells #[.string z.name, .string z.sort, .slice ya z.kids.length yc] 24)).mono (fun _ _ x => x.elim)).trans (HG7.out.upd.mono (fun _ _ e => .inl e)))).trans (HS8.out.mono (fun _ _ e => .inr e)))
        have HJ8 := Lib.hid (HJ.out.grow hlt HZ.out (Nat.lt_succ_self (w.heap.size + 2)) HSZ.out HWR.out HW6.out HT6.out HBX6.out ((Upd.refl (fun _ => False) w6).alloc (.cells #[.string z.name, .string z.sort, .slice ya z.kids.length yc] 24)) HG7.out HS8.out)
        have hne : ∀ j, j < w.heap.size + 2 → ¬ ((Value.slice la k lc).ownBlock = some j ∨ j = w.heap.size + 2) := fun j hj e => by
          rcases e with e | e
          · have h1 := (HJ.out.own.lt _ e).1; omega
          · omega
        have HE8 : Hid (Ext w (w7.setCell ⟨w.heap.size + 2, 2, none⟩ (.slice a7 (k + 1) c7))) := Lib.hid (HE.out.trans' HU8.out (fun j hj => hne j (by omega)))
        have HB28 := Lib.hid (HU8.out.heap HB2.out (hne _ (by omega)))
        have HBr8 := Lib.hid (HU8.out.heap HBr.out (hne _ (by omega)))
        have hb38 := setBlock HB7.out 2 (.slice a7 (k + 1) c7)
        have HB38 : Hid ((w7.setCell ⟨w.heap.size + 2, 2, none⟩ (.slice a7 (k + 1) c7)).heap[w.heap.size + 2]? = some (.cells #[.string n, .string s, .slice a7 (k + 1) c7] 24 (0, 0))) := Lib.hid (by simpa using hb38)
        have HS9 : Hid (w.heap.size + 3 ≤ (w7.setCell ⟨w.heap.size + 2, 2, none⟩ (.slice a7 (k + 1) c7)).heap.size) := Lib.hid (Nat.le_trans HSZ.out HU8.out.size)
        clear hb38 c2 f7 hne
        go_roundg (L.length - (k + 1))
        case measure => omega
        case rel => exact ⟨k + 1, _, _, _, by go_num, rfl, by omega, HJ8, HB28, HBr8, HB38, HE8, HS9⟩
    · obtain rfl : k = L.length := by omega
      have z2 : decide ((L.length : Int) < (L.length : Int)) = false := decide_eq_false (by omega)
      have HFIN := Lib.hid HJ.out.fin
      have c0 := cellRow HB3.out 0 (.string n) rfl
      have c1 := cellRow HB3.out 1 (.string s) rfl
      have c2 := cellRow HB3.out 2 (.slice la L.length lc) rfl
      have f2 := fun i => frozenRow HBr.out i
      have d0 := cellRow HBr.out 0 (.string ⟨#[]⟩) rfl
      have d1 := cellRow HBr.out 1 (.string ⟨#[]⟩) rfl
      have d2 := cellRow HBr.out 2 (.slice none 0 0) rfl
      go_wp2_with fail
      have hr3 := st3_heap HBr.out (.string n) (.string s) (.slice la L.length lc)
      have hu := st3_upd' wr (w.heap.size + 1) (.string n) (.string s) (.slice la L.length lc)
      have e0 := cellRow hr3 0 _ rfl
      have e1 := cellRow hr3 1 _ rfl
      have e2 := cellRow hr3 2 _ rfl
      refine bodyPost_ret (v := .agg #[.string n, .string s, .slice la L.length lc]) (by simp [results, Tryz.results101, go_sem, e0, e1, e2]) rfl ⟨.slice la L.length lc, _, rfl, HFIN.out.kept hu (fun j hj e => by have h1 := hj.1; omega), fun j hj => ⟨by have h1 := hj.1; omega, Nat.lt_of_lt_of_le hj.2 hu.size⟩, HE.out.trans' hu (fun j hj e => by omega)⟩

end Go.Proofs.YtlkcjmaiahnodaaGreatDoor

/- Matched, of the reference. -/
namespace Go.Proofs.YtlkcjmaiahnodaaGreatDoor
open Go.RowKit Go.Hw Go
set_option linter.unusedVariables false
set_option linter.unusedSimpArgs false

open Tm Go.Sort Go.Proofs Go.ChangeMaps
/-- a block of a row of terms -/
def Ty24 (W : World) (k : Nat) : Prop := ∃ cs fz, W.heap[k]? = some (.cells cs 24 fz)
theorem TlO.ty {w : World} {B : Nat → Prop} {L : List Tm} {v : Value} (h : TlO 24 w B L v) : TlR (Ty24 w) w L v := by
  induction h with
  | mk B L us v Bk hl hown hb hkb hrow hdis hk ih =>
    refine .mk L us v hl ((SlR.of_own hown).weaken (fun k hk2 => ?_)) ih
    rcases hown.2 with ⟨e, _⟩ | ⟨g, cap, cur, e, _, h3, _⟩
    · rw [e] at hk2; cases hk2
    · rw [e] at hk2
      injection hk2 with hk2
      rw [← hk2]
      exact ⟨_, _, h3⟩
theorem Ty24.ext {W W' : World} {k : Nat} (h : Ty24 W k) (hE : Ext W W') : Ty24 W' k := by
  obtain ⟨cs, fz, h⟩ := h
  exact ⟨cs, fz, hE.heap h (fun h => h)⟩
theorem bCells_snoc1 {B : List Bd} {us : List Value} (h : us.length = B.length) (x : Bd) (u : Value) : bCells (B ++ [x]) (us ++ [u]) = bCells B us ++ [.string x.1, .string x.2.1, .string x.2.2.name, .string x.2.2.sort, u] := by
  rw [bCells_app B [x] us [u] h]
  rfl
theorem bn_one {R S : Nat → Prop} {w : World} {B : List Bd} {us : List Value} (h : us.length = B.length) (ht : ∀ i, i < B.length → TlR S w (Go.Hw.bg B i).2.2.kids (ug us i)) : ∀ u ∈ us, u.oneCell' = true := fun u hu => by
  obtain ⟨i, hi, e⟩ := List.getElem_of_mem hu
  have h1 := ht i (by omega)
  have h2 : ug us i = u := by unfold ug; rw [List.getD_eq_getElem?_getD, List.getElem?_eq_getElem hi]; exact e
  rw [h2] at h1
  obtain ⟨a, c, h3⟩ := h1.shape
  rw [h3]
  rfl
theorem fixB_some {B : List Bd} {n : By} {x : Tm} (h : bget B n = some x) : ∃ i, i < B.length ∧ fixB B n = (i : Int) ∧ (Go.Hw.bg B i).2.2 = x := by
  unfold fixB
  cases hf : B.findIdx? (fun b => decide (b.1 = n)) with
  | none =>
    rw [List.findIdx?_eq_none_iff] at hf
    unfold bget at h
    have : B.find? (fun b => decide (b.1 = n)) = none := by
      rw [List.find?_eq_none]
      intro b hb
      have := hf b hb
      simpa using this
    rw [this] at h
    cases h
  | some i =>
    rw [List.findIdx?_eq_some_iff_getElem] at hf
    obtain ⟨hi, h1, h2⟩ := hf
    refine ⟨i, hi, rfl, ?_⟩
    have h3 : B.find? (fun b => decide (b.1 = n)) = some B[i] := by
      rw [List.find?_eq_some_iff_getElem]
      exact ⟨h1, i, hi, rfl, fun j hj => by simpa using h2 j hj⟩
    unfold bget at h
    rw [h3] at h
    unfold Go.Hw.bg
    rw [List.getD_eq_getElem?_getD, List.getElem?_eq_getElem hi]
    injection h
theorem fixB_none {B : List Bd} {n : By} (h : bget B n = none) : fixB B n = -1 := by
  unfold fixB
  cases hf : B.findIdx? (fun b => decide (b.1 = n)) with
  | none => rfl
  | some i =>
    rw [List.findIdx?_eq_some_iff_getElem] at hf
    obtain ⟨hi, h1, h2⟩ := hf
    have h3 : B.find? (fun b => decide (b.1 = n)) = some B[i] := by
      rw [List.find?_eq_some_iff_getElem]
      exact ⟨h1, i, hi, rfl, fun j hj => by simpa using h2 j hj⟩
    unfold bget at h
    rw [h3] at h
    cases h
theorem mti_len {X : List Vd} {Y : Tm → Prop} {B : List Bd} (h : MtI X Y B) : B.length ≤ X.length := by
  have h1 : (B.map fun b => (b.1, b.2.1)).Nodup := by
    rw [List.Nodup, List.pairwise_map]
    exact h.dist.imp (fun hab e => hab (Prod.mk.inj e).1)
  have h2 := h1.length_le_of_subset (fun q hq => by
    obtain ⟨b, hb, e⟩ := List.mem_map.1 hq
    rw [← e]
    exact h.inX b hb)
  rw [List.length_map] at h2
  exact h2
theorem bn_up {W W' : World} {v : Value} {B : List Bd} (h : BnR (fun k => k < W.heap.size) (fun k => k < W.heap.size) W v B) (hE : Ext W W') : BnR (fun k => k < W'.heap.size) (fun k => k < W'.heap.size) W' v B := bn_ext h hE
set_option maxRecDepth 100000 in
set_option maxHeartbeats 2000000 in
theorem matched_x {X : List Vd} (hX : X.length ≤ 100000) : ∀ (p t : Tm) (v v' vs : Value) (B : List Bd) (w : World), TmR (fun k => k < w.heap.size) w p v → TmR (fun k => k < w.heap.size) w t v' → BnR (fun k => k < w.heap.size) (fun k => k < w.heap.size) w vs B → p.size ≤ 1000000 → t.size ≤ 100000 → NoP p → (∀ f ∈ vof p, f ∈ X) → MtI X (fun t => t.size ≤ 100000) B →
    Calls Tryz.prog 67 #[v, v', vs] w fun e w' => ∃ r, e = .returned (.tuple #[r, .bool (mtB p t B).isSome]) ∧ (∀ C, mtB p t B = some C → BnR (fun k => k < w'.heap.size) (fun k => k < w'.heap.size) w' r C) ∧ Ext w w' := by
  refine Tm.ind (fun n s L ih => ?_)
  intro t v v' vs B w hP hT hB hsz hszt hnp hvx hI
  obtain ⟨m, r, M⟩ := t
  obtain ⟨V, hV⟩ : ∃ V, mtB (.mk n s L) (.mk m r M) B = V := ⟨_, rfl⟩
  rw [hV]
  have HVV := Lib.hid hV
  obtain ⟨pa, pc, rfl, hP⟩ := hP
  obtain ⟨ta, tc, rfl, hT⟩ := hT
  dsimp only [tV, Tm.name, Tm.sort, Tm.kids] at hP hT ⊢
  have HPL := Lib.hid hP
  have HTM := Lib.hid hT
  have HB := Lib.hid hB
  have HI := Lib.hid hI
  have HIH := Lib.hid ih
  have HNP := Lib.hid hnp
  have HVX := Lib.hid hvx
  have HSZT := Lib.hid hszt
  have hbl : B.length ≤ 100000 := Nat.le_trans (mti_len hI) hX
  have HBL := Lib.hid hbl
  have hlL : L.length ≤ 1000000 := by have h1 := length_le_sizes L; have h2 := hsz; rw [size_eq] at h2; exact Nat.le_trans h1 (Nat.le_of_succ_le h2)
  have hszl : sizes L + 1 ≤ 1000000 := by rw [size_eq] at hsz; exact hsz
  have hszm : sizes M + 1 ≤ 100000 := by rw [size_eq] at hszt; exact hszt
  have HSZ := Lib.hid (And.intro hszl hszm)
  obtain ⟨ba, bc, rfl⟩ := hB.shape
  clear ih hP hT hB hsz hszt hszl hszm hV hI hnp hvx hbl
  have HE := Lib.hid (((Upd.refl (fun _ => False) w).alloc (.cells #[.string n, .string s, .slice pa L.length pc] 24)).alloc (.cells #[.string m, .string r, .slice ta M.length tc] 24))
  have HBP := Lib.hid (allocOld (alloc0 w (.cells #[.string n, .string s, .slice pa L.length pc] 24)) (.cells #[.string m, .string r, .slice ta M.length tc] 24))
  have HBT := Lib.hid (alloc_at (w.alloc (.cells #[.string n, .string s, .slice pa L.length pc] 24)) (.cells #[.string m, .string r, .slice ta M.length tc] 24) (n := w.heap.size + 1) (by simp))
  have a0 := cellRow HBP.out 0 (.string n) rfl
  have a1 := cellRow HBP.out 1 (.string s) rfl
  have a2 := cellRow HBP.out 2 (.slice pa L.length pc) rfl
  have b0 := cellRow HBT.out 0 (.string m) rfl
  have b1 := cellRow HBT.out 1 (.string r) rfl
  have b2 := cellRow HBT.out 2 (.slice ta M.length tc) rfl
  have t1 := emp_dec s
  have t2 := emp_dec r
  go_enter Tryz.func67, Tryz.ntmps67
  go_upto_region 1 with fail
  generalize (w.alloc (.cells #[.string n, .string s, .slice pa L.length pc] 24)).alloc (.cells #[.string m, .string r, .slice ta M.length tc] 24) = w1 at *
  by_cases hs0 : s = nul
  · rw [decide_eq_true hs0] at t1
    have HS0 := Lib.hid hs0
    clear hs0
    by_cases hr0 : r = nul
    rotate_left
    · rw [decide_eq_false hr0] at t2
      have HV : Hid (V = none) := Lib.hid (by rw [← HVV.out, HS0.out]; exact mtB_no (fun h => hr0 h.1))
      clear hr0
      go_wp2_with fail
      go_ret2
      rw [HV.out]
      exact ⟨_, rfl, (fun C h => by cases h), HE.out⟩
    rw [decide_eq_true hr0] at t2
    have HR0 := Lib.hid hr0
    clear hr0
    have t3 := str_dc m n
    by_cases hnm : m = n
    rotate_left
    · rw [decide_eq_false hnm] at t3
      have HV : Hid (V = none) := Lib.hid (by rw [← HVV.out, HS0.out]; exact mtB_no (fun h => hnm h.2.1))
      clear hnm
      go_wp2_with fail
      go_ret2
      rw [HV.out]
      exact ⟨_, rfl, (fun C h => by cases h), HE.out⟩
    rw [decide_eq_true hnm] at t3
    by_cases hlen : M.length = L.length
    rotate_left
    · have t4 : ((M.length : Int) != (L.length : Int)) = true := ln_ne hlen
      have HV : Hid (V = none) := Lib.hid (by rw [← HVV.out, HS0.out]; exact mtB_no (fun h => hlen h.2.2))
      clear hnm hlen
      go_wp2_with fail
      go_ret2
      rw [HV.out]
      exact ⟨_, rfl, (fun C h => by cases h), HE.out⟩
    have t4 : ((M.length : Int) != (L.length : Int)) = false := by simp [hlen]
    have HV0 : Hid (mtBL L M B = V) := Lib.hid (by rw [← HVV.out, HS0.out]; exact (mtB_op (t := .mk m r M) ⟨HR0.out, hnm, hlen⟩).symm)
    have HLN := Lib.hid hlen
    have HVL : Hid (∀ x ∈ L, ∀ f ∈ vof x, f ∈ X) := Lib.hid (fun x hx f hf => HVX.out f (vof_kid (t := .mk n s L) hx hf))
    have HB0 := Lib.hid (bn_up HB.out HE.out)
    clear hnm hlen HVV
    go_wp2_with fail
    clear t1 t2 t3 t4 a0 a1 a2 b0 b1 b2
    go_loopg [2, 9] L.length (fun gk sv iv wr => ∃ (k : Nat) (C : List Bd), iv = .int .i64 (k : Int) ∧ gk = L.length - k ∧ k ≤ L.length ∧ Hid (BnR (fun k => k < wr.heap.size) (fun k => k < wr.heap.size) wr sv C) ∧ Hid (MtI X (fun t => t.size ≤ 100000) C) ∧ Hid (mtBL (L.drop k) (M.drop k) C = V) ∧ Hid (Ext w wr) ∧ Hid (wr.heap[w.heap.size]? = some (.cells #[.string n, .string s, .slice pa L.length pc] 24 (0, 0))) ∧ Hid (wr.heap[w.heap.size + 1]? = some (.cells #[.string m, .string r, .slice ta M.length tc] 24 (0, 0))))
    case atStart => exact ⟨0, B, rfl, rfl, Nat.zero_le _, HB0, HI, HV0, HE, HBP, HBT⟩
    case round =>
      clear HB0 HV0 HE HBP HBT HB HI
      obtain ⟨k, C, rfl, rfl, hk, HBC, HIC, HVK, HE, HBP, HBT⟩ := hrel
      obtain ⟨ca, cc, hsv⟩ := HBC.out.shape
      subst hsv
      have a0 := cellRow HBP.out 0 (.string n) rfl
      have a1 := cellRow HBP.out 1 (.string s) rfl
      have a2 := cellRow HBP.out 2 (.slice pa L.length pc) rfl
      have b0 := cellRow HBT.out 0 (.string m) rfl
      have b1 := cellRow HBT.out 1 (.string r) rfl
      have b2 := cellRow HBT.out 2 (.slice ta M.length tc) rfl
      by_cases hlt : k < L.length
      · have hltM : k < M.length := by have := HLN.out; omega
        obtain ⟨g, off, hga, _, hat⟩ := (HPL.out.ext HE.out).at_ (by omega)
        obtain ⟨g', off', hga', _, hat'⟩ := (HTM.out.ext HE.out).at_ (by omega)
        subst hga
        subst hga'
        obtain ⟨xa, xc, q0, q1, q2, hkid⟩ := hat k hlt
        obtain ⟨ya, yc, p0, p1, p2, hkid'⟩ := hat' k hltM
        rw [← Nat.add_assoc] at q1 q2 p1 p2
        have z0 : (0 : Int) ≤ (k : Int) := by omega
        have z1 : (k : Int) < (L.length : Int) := by omega
        have z2 : decide ((k : Int) < (L.length : Int)) = true := decide_eq_true z1
        have z2' : decide (k < L.length) = true := decide_eq_true hlt
        have z3 : (k : Int) < (M.length : Int) := by omega
        have hyz : (tg M k).size ≤ 100000 := by have h1 := HSZ.out.2; have h2 := size_mem (tg_mem M k hltM); omega
        have HIX := Lib.hid (fun W (hW : Ext wr W) => HIH.out (tg L k) (tg_mem L k hlt) (tg M k) _ _ (.slice ca C.length cc) C W ⟨xa, xc, rfl, (hkid.ext hW).weaken (fun j hj => Nat.lt_of_lt_of_le hj (Nat.le_trans HE.out.size hW.size))⟩ ⟨ya, yc, rfl, (hkid'.ext hW).weaken (fun j hj => Nat.lt_of_lt_of_le hj (Nat.le_trans HE.out.size hW.size))⟩ (bn_up HBC.out hW) (by have h1 := HSZ.out.1; have h2 := size_mem (tg_mem L k hlt); omega) hyz (HNP.out.kid (tg_mem L k hlt)) (HVL.out _ (tg_mem L k hlt)) HIC.out)
        have HVN := Lib.hid (HVK.out.symm.trans (mtBL_at (B := C) hlt hltM))
        have HMT := Lib.hid (fun D (h : mtB (tg L k) (tg M k) C = some D) => (mtB_ok (X := X) (Y := fun t => t.size ≤ 100000) (fun t x h hx => by have := size_mem hx; have h3 := size_eq t; omega) (tg L k) (tg M k) C D h (HNP.out.kid (tg_mem L k hlt)) (HVL.out _ (tg_mem L k hlt)) hyz HIC.out).1)
        dsimp only [tV] at HIX
        obtain ⟨x, hx⟩ : ∃ x, tg L k = x := ⟨_, rfl⟩
        obtain ⟨y, hy⟩ : ∃ y, tg M k = y := ⟨_, rfl⟩
        rw [hx] at q0 q1 q2 HIX HVN HMT
        rw [hy] at p0 p1 p2 HIX HVN HMT
        obtain ⟨U, hU⟩ : ∃ U, mtB x y C = U := ⟨_, rfl⟩
        rw [hU] at HIX HVN HMT
        have HWR : Hid (Ext wr wr) := Lib.hid (Upd.refl _ _)
        clear hx hy hU HVK HBC hat hat' hkid hkid' hyz
        go_wp2_with fail
        go_region_law (first
          | (go_simp; refine (HIX.out wr.drew HWR.out.drew).mono ?_; rintro e w5 ⟨r5, rfl, hb5, hw5⟩; have HW5 : Hid (Ext wr w5) := Lib.hid (((Upd.refl (fun _ => False) wr).drewN' 1).trans hw5); have HB5 := Lib.hid hb5; clear hb5 hw5 HIX))
        all_goals
          have HE5 := Lib.hid (HE.out.trans HW5.out)
          have HBP5 := Lib.hid (HW5.out.heap HBP.out (fun h => h))
          have HBT5 := Lib.hid (HW5.out.heap HBT.out (fun h => h))
          clear p0 p1 p2 q0 q1 q2 a0 a1 a2 b0 b1 b2
          cases U with
          | none =>
            have HV : Hid (V = none) := Lib.hid HVN.out
            simp only [Option.isSome_none]
            clear HVN
            go_wp2_with fail
            go_ret2
            rw [HV.out]
            exact ⟨_, rfl, (fun C h => by cases h), HE5.out⟩
          | some D =>
            have HVX2 : Hid (mtBL (L.drop (k + 1)) (M.drop (k + 1)) D = V) := Lib.hid HVN.out.symm
            have HBD := Lib.hid (HB5.out D rfl)
            have HID := Lib.hid (HMT.out D rfl)
            simp only [Option.isSome_some]
            clear HVN HB5
            go_wp2_with fail
            go_roundg (L.length - (k + 1))
            case measure => omega
            case rel => exact ⟨k + 1, D, by go_num, rfl, by omega, HBD, HID, HVX2, HE5, HBP5, HBT5⟩
      · obtain rfl : k = L.length := by omega
        have z2 : decide ((L.length : Int) < (L.length : Int)) = false := decide_eq_false (by omega)
        have HV : Hid (V = some C) := Lib.hid (by rw [← HVK.out, List.drop_length]; unfold mtBL; rfl)
        clear HVK
        go_wp2_with fail
        go_ret2
        rw [HV.out]
        exact ⟨_, rfl, (fun D h => by injection h with h; rw [← h]; exact HBC.out), HE.out⟩
  · rw [decide_eq_false hs0] at t1
    have HSN := Lib.hid hs0
    clear hs0
    by_cases hr0 : r = nul
    · rw [decide_eq_true hr0] at t2
      have HNOT : Hid (¬ (r ≠ nul ∧ r ≠ s)) := Lib.hid (fun h => h.1 hr0)
      clear hr0
      go_upto_region 4 with fail
      clear t1 t2
      have HFD := Lib.hid (find05_x B (.slice ba B.length bc) n _ _ w1 (bn_up HB.out HE.out) (by have := HBL.out; omega))
      obtain ⟨FX, hFX⟩ : ∃ x, fixB B n = x := ⟨_, rfl⟩
      rw [hFX] at HFD
      have HFX := Lib.hid hFX
      clear hFX
      cases hx : bget B n with
      | some x =>
        obtain ⟨i, hi, hfi, hxe⟩ := fixB_some hx
        obtain rfl : FX = (i : Int) := by rw [← HFX.out, hfi]
        have hbx := bn_up HB.out HE.out
        obtain ⟨g, off, hga, _, hat⟩ := hbx.at_ (by omega)
        obtain ⟨ka, kc, q0, q1, q2, q3, q4, hqT⟩ := hat i hi
        subst hga
        rw [hxe] at q2 q3 q4 hqT
        have hxz : x.size ≤ 100000 := by rw [← hxe]; exact HI.out.val _ (bg_mem hi)
        have HV : Hid (V = if x = .mk m r M then some B else none) := Lib.hid (by rw [← HVV.out]; exact mtB_some HSN.out HNOT.out hx)
        have HSX := Lib.hid (fun W (hW : Ext w1 W) => same_x x (.mk m r M) (.agg #[.string x.name, .string x.sort, .slice ka x.kids.length kc]) (.agg #[.string m, .string r, .slice ta M.length tc]) _ _ W ⟨ka, kc, rfl, hqT.ext hW⟩ ⟨ta, tc, rfl, (HTM.out.ext HE.out).ext hW⟩ (by omega))
        have z0 : (0 : Int) ≤ (i : Int) := by omega
        have z1 : (i : Int) < (B.length : Int) := by omega
        have z2 : decide ((0 : Int) ≤ (i : Int)) = true := decide_eq_true z0
        have HW1 : Hid (Ext w1 w1) := Lib.hid (Upd.refl _ _)
        have HB1 := Lib.hid hbx
        clear hat q0 q1 hqT hx hfi hxe hi hbx hxz
        go_wp2_with fail
        refine HFD.out.mono ?_
        rintro e w2 ⟨rfl, hw2⟩
        subst hw2
        go_wp2_with fail
        go_region_law (first
          | (go_simp; refine (HSX.out w2.drew HW1.out.drew).mono ?_; rintro e w5 ⟨rfl, hw5⟩; have HW5 : Hid (Ext w2 w5) := Lib.hid (((Upd.refl (fun _ => False) w2).drewN' 1).trans hw5); clear hw5 HSX))
        all_goals
          have HE5 := Lib.hid (HE.out.trans HW5.out)
          have HB5 := Lib.hid (bn_up HB1.out HW5.out)
          clear q2 q3 q4 a0 a1 a2 b0 b1 b2
          go_wp2_with fail
          go_ret2
          rw [HV.out]
          by_cases e : x = .mk m r M
          · rw [if_pos e, decide_eq_true e]
            exact ⟨_, rfl, (fun C h => by injection h with h; rw [← h]; exact HB5.out), HE5.out⟩
          · rw [if_neg e, decide_eq_false e]
            exact ⟨_, rfl, (fun _ h => by cases h), HE5.out⟩
      | none =>
        obtain rfl : FX = -1 := by rw [← HFX.out, fixB_none hx]
        have HV : Hid (V = some (B ++ [(n, s, .mk m r M)])) := Lib.hid (by rw [← HVV.out]; exact mtB_new HSN.out HNOT.out hx)
        clear hx
        go_wp2_with fail
        refine HFD.out.mono ?_
        rintro e w2 ⟨rfl, hw2⟩
        subst hw2
        obtain ⟨us, hul, hsl, htl⟩ := bn_up HB.out HE.out
        have hone := bCells_one B us (bn_one (R := fun _ => True) hul htl)
        have HUS := Lib.hid (And.intro hul (And.intro hsl (And.intro htl hone)))
        have xa0 := fun x : XW w2 => x.ext.cell a0 (fun h => h)
        have xa1 := fun x : XW w2 => x.ext.cell a1 (fun h => h)
        have xb0 := fun x : XW w2 => x.ext.cell b0 (fun h => h)
        have xb1 := fun x : XW w2 => x.ext.cell b1 (fun h => h)
        have xb2 := fun x : XW w2 => x.ext.cell b2 (fun h => h)
        obtain ⟨iS, hi, hz0, hz1, hz2⟩ := info_parts infoBd
        clear hul hsl htl hone a0 a1 a2 b0 b1 b2
        go_wp2_with fail
        refine wp_region_parF (α := Option Addr × Nat) 11 [] 11 [(11, 2), (12, 2), (13, 2)] [[], [], [0, 1], [], [3], [], [5], [], [0, 1, 2, 7], [0, 1, 2, 3, 4, 5, 6, 7, 8], [0, 1, 2, 3, 4, 5, 6, 7, 8, 9], [0, 1, 2, 3, 4, 5, 6, 7, 8, 9, 10], [0, 1, 2, 3, 4, 5, 6, 7, 8, 9, 10, 11], [0, 1, 2, 3, 4, 5, 6, 7, 8, 9, 10, 11, 12]]
          [some ⟨fun x => .slice x.1 0 0, fun x W => W.ownsRow w2.heap.size 93 5 (.slice x.1 0 0) 0 [], fun x W W' h hE => own_kept h hE (fun _ _ h => h)⟩, none, some ⟨fun x => .slice x.1 B.length x.2, fun x W => W.ownsRow w2.heap.size 93 5 (.slice x.1 B.length x.2) B.length (bCells B us), fun x W W' h hE => own_kept h hE (fun _ _ h => h)⟩, none, none, none, none, none, some ⟨fun x => .agg #[.string m, .string r, .slice x.1 M.length x.2], fun x W => TlR (Ty24 W) W M (.slice x.1 M.length x.2), fun x W W' h hE => (h.ext hE).weaken (fun k hk => Ty24.ext hk hE)⟩, none, some ⟨fun x => .slice x.1 1 x.2, fun x W => ∃ ya yc, SlR (fun _ => True) W 5 (.slice x.1 1 x.2) 1 [.string n, .string s, .string m, .string r, .slice ya M.length yc] ∧ TlR (Ty24 W) W M (.slice ya M.length yc), fun x W W' ⟨ya, yc, h1, h2⟩ hE => ⟨ya, yc, SlR.kept h1 hE (fun _ _ h => h), (h2.ext hE).weaken (fun k hk => Ty24.ext hk hE)⟩⟩]
          [true, false, true, false, false, false, false, false, true, false, true] (by kernel_rfl) (by kernel_rfl) rfl (fun _ _ d _ _ h => by cases d <;> exact h) ?_
        simp only [List.take_succ_cons, List.take_zero, pickO, List.getElem?_cons_zero, List.getElem?_cons_succ]
        refine can_mem _ rfl (by go_simp) (fun W hW hG K hK => ?_) (fun K zz0 hK => ?_)
        · go_simp
          exact hK (some ⟨W.heap.size, 0, none⟩, 0) _ ((Upd.refl (fun _ => False) W).alloc _) (World.ownsRow_lit (base := w2.heap.size) (e := 93) (size := 5) W #[] 0 hW.size (by unfold maxLen; omega) (by simp))
        refine hK _ ?_; clear hK K
        dsimp only
        refine can_pure0 rfl (fun K hK => ?_); go_simp; refine hK _ ?_; clear hK K
        refine can_mem _ rfl (by go_simp) (fun W hW hG K hK => ?_) (fun K zz2 hK => ?_)
        · have g0 := hG _ (List.mem_singleton.2 rfl) (by show (0 : Nat) ∈ _; decide)
          refine step_append_new _ (.tmp 39) (.tmp 40) 27 rfl w2.heap.size 93 iS (.agg #[.string ⟨#[]⟩, .string ⟨#[]⟩, .string ⟨#[]⟩, .string ⟨#[]⟩, .slice none 0 0]) 5 88 Tryz.underlying27 hi hz0 hz1 hz2 rfl (by decide) _ rfl g0 (fun k => k < w2.heap.size) _ B.length _ rfl (SlR.kept HUS.out.2.1 hW (fun _ _ h => h)) HUS.out.2.2.2 (by have := HBL.out; unfold maxLen; omega) (by have := HBL.out; omega) hW.size ?_
          intro v' w' hE4 hO4
          obtain ⟨p4, c4, rfl⟩ := own_shape hO4
          exact hK (p4, c4) _ hE4 hO4
        refine hK _ ?_; clear hK K
        dsimp only
        iterate 5 (refine can_pure0 rfl (fun K hK => ?_); go_simp; refine hK _ ?_; clear hK K)
        refine can_mem _ rfl (by go_simp) (fun W hW hG K hK => ?_) (fun K zz8 hK => ?_)
        · go_simp
          refine (cop05_x (.mk m r M) (.agg #[.string m, .string r, .slice ta M.length tc]) (fun k => k < w.heap.size) W ⟨ta, tc, rfl, (HTM.out.ext HE.out).ext hW⟩ (fun k hk => Nat.lt_of_lt_of_le hk (Nat.le_trans HE.out.size hW.size)) HSZT.out).mono ?_
          rintro e w' ⟨r', Bx, rfl, hT, hb, hE⟩
          obtain ⟨ya, yc, rfl⟩ := TlO.shape hT
          exact hK (ya, yc) _ hE (TlO.ty hT)
        refine hK _ ?_; clear hK K
        dsimp only
        refine can_pure0 rfl (fun K hK => ?_); go_simp; refine hK _ ?_; clear hK K
        refine can_mem _ rfl (by go_simp) (fun W hW hG K hK => ?_) (fun K zz10 hK => ?_)
        · have g8 := hG _ (List.mem_append_right _ (List.mem_singleton.2 rfl)) (by show (8 : Nat) ∈ _; decide)
          go_simp
          have hA := (Upd.refl (fun _ => False) W).alloc (.cells #[.string n, .string s, .string m, .string r, .slice zz8.1 M.length zz8.2] 93)
          exact hK (some ⟨W.heap.size, 0, none⟩, 1) _ hA ⟨zz8.1, zz8.2, SlR.weaken (SlR.of_own (World.ownsRow_lit (base := w2.heap.size) (e := 93) (size := 5) W #[.string n, .string s, .string m, .string r, .slice zz8.1 M.length zz8.2] 1 hW.size (by unfold maxLen; omega) (by simp))) (fun _ _ => trivial), (g8.ext hA).weaken (fun k hk => Ty24.ext hk hA)⟩
        refine hK _ ?_; clear hK K
        dsimp only
        refine can_end (fun w8 hW hG => ?_)
        have g2 := hG _ (List.mem_append_left _ (List.mem_append_left _ (List.mem_append_right _ (List.mem_singleton.2 rfl))))
        have g10 := hG _ (List.mem_append_right _ (List.mem_singleton.2 rfl))
        dsimp only at g2 g10
        obtain ⟨ya, yc, gs, gt⟩ := g10
        clear hG
        refine mix_two (fun K hK => ?_)
        rw [if_pos (by go_simp)]
        refine step_append_sl _ (.tmp 41) (.tmp 49) 27 rfl w2.heap.size 93 iS (.agg #[.string ⟨#[]⟩, .string ⟨#[]⟩, .string ⟨#[]⟩, .string ⟨#[]⟩, .slice none 0 0]) 5 88 Tryz.underlying27 hi hz0 hz1 hz2 rfl (by decide) (.slice zz2.1 B.length zz2.2) B.length _ rfl g2 (fun _ => True) (.slice zz10.1 1 zz10.2) 1 _ rfl gs (fun u hu => by simp at hu; rcases hu with h | h | h | h | h <;> (subst h; rfl)) (by have := HBL.out; unfold maxLen; omega) (by have := HBL.out; omega) hW.size ?_
        intro v7 w9 hG7
        refine hK _ _ ?_; clear hK K
        have hlt2 : ∀ k, (Value.slice zz2.1 B.length zz2.2).ownBlock = some k → w2.heap.size ≤ k := fun k e => (g2.lt k e).1
        have HE9 : Hid (Ext w w9) := Lib.hid ((HE.out.trans hW).trans' hG7.upd (fun j hj e => by have h1 := hlt2 j e; have h2 := HE.out.size; omega))
        have h89 : w2.heap.size ≤ w9.heap.size := Nat.le_trans hW.size hG7.upd.size
        have HBN : Hid (BnR (fun k => k < w9.heap.size) (fun k => k < w9.heap.size) w9 v7 (B ++ [(n, s, .mk m r M)])) := Lib.hid (by
          refine ⟨us ++ [.slice ya M.length yc], by rw [List.length_append, List.length_append, HUS.out.1]; rfl, ?_, fun i hi => ?_⟩
          · rw [bCells_snoc1 HUS.out.1, List.length_append]
            exact SlR.weaken (SlR.of_own hG7.own) (fun k hk => (hG7.own.lt k hk).2)
          · by_cases e : i < B.length
            · have e1 : Go.Hw.bg (B ++ [(n, s, .mk m r M)]) i = Go.Hw.bg B i := by unfold Go.Hw.bg; rw [List.getD_eq_getElem?_getD, List.getD_eq_getElem?_getD, List.getElem?_append_left e]
              have e2 : ug (us ++ [.slice ya M.length yc]) i = ug us i := by unfold ug; rw [List.getD_eq_getElem?_getD, List.getD_eq_getElem?_getD, List.getElem?_append_left (by rw [HUS.out.1]; exact e)]
              rw [e1, e2]
              exact (((HUS.out.2.2.1 i e).ext hW).kept hG7.upd (fun k hk e => by have h1 := hlt2 k e; omega)).weaken (fun k hk => Nat.lt_of_lt_of_le hk h89)
            · have e0 : i = B.length := by rw [List.length_append] at hi; simp at hi; omega
              have e1 : Go.Hw.bg (B ++ [(n, s, .mk m r M)]) i = (n, s, .mk m r M) := by unfold Go.Hw.bg; rw [List.getD_eq_getElem?_getD, e0, List.getElem?_append_right (Nat.le_refl _), Nat.sub_self]; rfl
              have e2 : ug (us ++ [.slice ya M.length yc]) i = .slice ya M.length yc := by unfold ug; rw [List.getD_eq_getElem?_getD, e0, ← HUS.out.1, List.getElem?_append_right (Nat.le_refl _), Nat.sub_self]; rfl
              rw [e1, e2]
              refine (gt.kept hG7.upd (fun k hk e => ?_)).weaken (fun k hk => ?_)
              · obtain ⟨cs, fz, h1⟩ := hk
                rcases g2.2 with ⟨h2, _⟩ | ⟨g, cap, cur, h2, _, h3, _⟩
                · rw [h2] at e; cases e
                · rw [h2] at e
                  injection e with e
                  rw [← e, h3] at h1
                  injection h1 with h1
                  injection h1 with _ h1
                  cases h1
              · obtain ⟨cs, fz, h1⟩ := hk
                exact Nat.lt_of_lt_of_le (Array.getElem?_eq_some_iff.1 h1).1 hG7.upd.size)
        clear hG7 g2 gs gt hW hlt2 h89
        refine mix_two (fun K hK => ?_); go_simp; refine hK _ _ ?_; clear hK K
        refine mix_two (fun K hK => ?_); go_simp; refine hK _ _ ?_; clear hK K
        simp only [wpMix]
        go_wp2_with fail
        go_ret2
        rw [HV.out]
        exact ⟨v7, rfl, (fun C h => by injection h with h; rw [← h]; exact HBN.out), HE9.out⟩
    · rw [decide_eq_false hr0] at t2
      have t3 := str_dc r s
      by_cases hrs : r = s
      · rw [decide_eq_true hrs] at t3
        have HNOT : Hid (¬ (r ≠ nul ∧ r ≠ s)) := Lib.hid (fun h => h.2 hrs)
        clear hr0 hrs
        go_upto_region 4 with fail
        clear t3
        clear t1 t2
        have HFD := Lib.hid (find05_x B (.slice ba B.length bc) n _ _ w1 (bn_up HB.out HE.out) (by have := HBL.out; omega))
        obtain ⟨FX, hFX⟩ : ∃ x, fixB B n = x := ⟨_, rfl⟩
        rw [hFX] at HFD
        have HFX := Lib.hid hFX
        clear hFX
        cases hx : bget B n with
        | some x =>
          obtain ⟨i, hi, hfi, hxe⟩ := fixB_some hx
          obtain rfl : FX = (i : Int) := by rw [← HFX.out, hfi]
          have hbx := bn_up HB.out HE.out
          obtain ⟨g, off, hga, _, hat⟩ := hbx.at_ (by omega)
          obtain ⟨ka, kc, q0, q1, q2, q3, q4, hqT⟩ := hat i hi
          subst hga
          rw [hxe] at q2 q3 q4 hqT
          have hxz : x.size ≤ 100000 := by rw [← hxe]; exact HI.out.val _ (bg_mem hi)
          have HV : Hid (V = if x = .mk m r M then some B else none) := Lib.hid (by rw [← HVV.out]; exact mtB_some HSN.out HNOT.out hx)
          have HSX := Lib.hid (fun W (hW : Ext w1 W) => same_x x (.mk m r M) (.agg #[.string x.name, .string x.sort, .slice ka x.kids.length kc]) (.agg #[.string m, .string r, .slice ta M.length tc]) _ _ W ⟨ka, kc, rfl, hqT.ext hW⟩ ⟨ta, tc, rfl, (HTM.out.ext HE.out).ext hW⟩ (by omega))
          have z0 : (0 : Int) ≤ (i : Int) := by omega
          have z1 : (i : Int) < (B.length : Int) := by omega
          have z2 : decide ((0 : Int) ≤ (i : Int)) = true := decide_eq_true z0
          have HW1 : Hid (Ext w1 w1) := Lib.hid (Upd.refl _ _)
          have HB1 := Lib.hid hbx
          clear hat q0 q1 hqT hx hfi hxe hi hbx hxz
          go_wp2_with fail
          refine HFD.out.mono ?_
          rintro e w2 ⟨rfl, hw2⟩
          subst hw2
          go_wp2_with fail
          go_region_law (first
            | (go_simp; refine (HSX.out w2.drew HW1.out.drew).mono ?_; rintro e w5 ⟨rfl, hw5⟩; have HW5 : Hid (Ext w2 w5) := Lib.hid (((Upd.refl (fun _ => False) w2).drewN' 1).trans hw5); clear hw5 HSX))
          all_goals
            have HE5 := Lib.hid (HE.out.trans HW5.out)
            have HB5 := Lib.hid (bn_up HB1.out HW5.out)
            clear q2 q3 q4 a0 a1 a2 b0 b1 b2
            go_wp2_with fail
            go_ret2
            rw [HV.out]
            by_cases e : x = .mk m r M
            · rw [if_pos e, decide_eq_true e]
              exact ⟨_, rfl, (fun C h => by injection h with h; rw [← h]; exact HB5.out), HE5.out⟩
            · rw [if_neg e, decide_eq_false e]
              exact ⟨_, rfl, (fun _ h => by cases h), HE5.out⟩
        | none =>
          obtain rfl : FX = -1 := by rw [← HFX.out, fixB_none hx]
          have HV : Hid (V = some (B ++ [(n, s, .mk m r M)])) := Lib.hid (by rw [← HVV.out]; exact mtB_new HSN.out HNOT.out hx)
          clear hx
          go_wp2_with fail
          refine HFD.out.mono ?_
          rintro e w2 ⟨rfl, hw2⟩
          subst hw2
          obtain ⟨us, hul, hsl, htl⟩ := bn_up HB.out HE.out
          have hone := bCells_one B us (bn_one (R := fun _ => True) hul htl)
          have HUS := Lib.hid (And.intro hul (And.intro hsl (And.intro htl hone)))
          have xa0 := fun x : XW w2 => x.ext.cell a0 (fun h => h)
          have xa1 := fun x : XW w2 => x.ext.cell a1 (fun h => h)
          have xb0 := fun x : XW w2 => x.ext.cell b0 (fun h => h)
          have xb1 := fun x : XW w2 => x.ext.cell b1 (fun h => h)
          have xb2 := fun x : XW w2 => x.ext.cell b2 (fun h => h)
          obtain ⟨iS, hi, hz0, hz1, hz2⟩ := info_parts infoBd
          clear hul hsl htl hone a0 a1 a2 b0 b1 b2
          go_wp2_with fail
          refine wp_region_parF (α := Option Addr × Nat) 11 [] 11 [(11, 2), (12, 2), (13, 2)] [[], [], [0, 1], [], [3], [], [5], [], [0, 1, 2, 7], [0, 1, 2, 3, 4, 5, 6, 7, 8], [0, 1, 2, 3, 4, 5, 6, 7, 8, 9], [0, 1, 2, 3, 4, 5, 6, 7, 8, 9, 10], [0, 1, 2, 3, 4, 5, 6, 7, 8, 9, 10, 11], [0, 1, 2, 3, 4, 5, 6, 7, 8, 9, 10, 11, 12]]
            [some ⟨fun x => .slice x.1 0 0, fun x W => W.ownsRow w2.heap.size 93 5 (.slice x.1 0 0) 0 [], fun x W W' h hE => own_kept h hE (fun _ _ h => h)⟩, none, some ⟨fun x => .slice x.1 B.length x.2, fun x W => W.ownsRow w2.heap.size 93 5 (.slice x.1 B.length x.2) B.length (bCells B us), fun x W W' h hE => own_kept h hE (fun _ _ h => h)⟩, none, none, none, none, none, some ⟨fun x => .agg #[.string m, .string r, .slice x.1 M.length x.2], fun x W => TlR (Ty24 W) W M (.slice x.1 M.length x.2), fun x W W' h hE => (h.ext hE).weaken (fun k hk => Ty24.ext hk hE)⟩, none, some ⟨fun x => .slice x.1 1 x.2, fun x W => ∃ ya yc, SlR (fun _ => True) W 5 (.slice x.1 1 x.2) 1 [.string n, .string s, .string m, .string r, .slice ya M.length yc] ∧ TlR (Ty24 W) W M (.slice ya M.length yc), fun x W W' ⟨ya, yc, h1, h2⟩ hE => ⟨ya, yc, SlR.kept h1 hE (fun _ _ h => h), (h2.ext hE).weaken (fun k hk => Ty24.ext hk hE)⟩⟩]
            [true, false, true, false, false, false, false, false, true, false, true] (by kernel_rfl) (by kernel_rfl) rfl (fun _ _ d _ _ h => by cases d <;> exact h) ?_
          simp only [List.take_succ_cons, List.take_zero, pickO, List.getElem?_cons_zero, List.getElem?_cons_succ]
          refine can_mem _ rfl (by go_simp) (fun W hW hG K hK => ?_) (fun K zz0 hK => ?_)
          · go_simp
            exact hK (some ⟨W.heap.size, 0, none⟩, 0) _ ((Upd.refl (fun _ => False) W).alloc _) (World.ownsRow_lit (base := w2.heap.size) (e := 93) (size := 5) W #[] 0 hW.size (by unfold maxLen; omega) (by simp))
          refine hK _ ?_; clear hK K
          dsimp only
          refine can_pure0 rfl (fun K hK => ?_); go_simp; refine hK _ ?_; clear hK K
          refine can_mem _ rfl (by go_simp) (fun W hW hG K hK => ?_) (fun K zz2 hK => ?_)
          · have g0 := hG _ (List.mem_singleton.2 rfl) (by show (0 : Nat) ∈ _; decide)
            refine step_append_new _ (.tmp 39) (.tmp 40) 27 rfl w2.heap.size 93 iS (.agg #[.string ⟨#[]⟩, .string ⟨#[]⟩, .string ⟨#[]⟩, .string ⟨#[]⟩, .slice none 0 0]) 5 88 Tryz.underlying27 hi hz0 hz1 hz2 rfl (by decide) _ rfl g0 (fun k => k < w2.heap.size) _ B.length _ rfl (SlR.kept HUS.out.2.1 hW (fun _ _ h => h)) HUS.out.2.2.2 (by have := HBL.out; unfold maxLen; omega) (by have := HBL.out; omega) hW.size ?_
            intro v' w' hE4 hO4
            obtain ⟨p4, c4, rfl⟩ := own_shape hO4
            exact hK (p4, c4) _ hE4 hO4
          refine hK _ ?_; clear hK K
          dsimp only
          iterate 5 (refine can_pure0 rfl (fun K hK => ?_); go_simp; refine hK _ ?_; clear hK K)
          refine can_mem _ rfl (by go_simp) (fun W hW hG K hK => ?_) (fun K zz8 hK => ?_)
          · go_simp
            refine (cop05_x (.mk m r M) (.agg #[.string m, .string r, .slice ta M.length tc]) (fun k => k < w.heap.size) W ⟨ta, tc, rfl, (HTM.out.ext HE.out).ext hW⟩ (fun k hk => Nat.lt_of_lt_of_le hk (Nat.le_trans HE.out.size hW.size)) HSZT.out).mono ?_
            rintro e w' ⟨r', Bx, rfl, hT, hb, hE⟩
            obtain ⟨ya, yc, rfl⟩ := TlO.shape hT
            exact hK (ya, yc) _ hE (TlO.ty hT)
          refine hK _ ?_; clear hK K
          dsimp only
          refine can_pure0 rfl (fun K hK => ?_); go_simp; refine hK _ ?_; clear hK K
          refine can_mem _ rfl (by go_simp) (fun W hW hG K hK => ?_) (fun K zz10 hK => ?_)
          · have g8 := hG _ (List.mem_append_right _ (List.mem_singleton.2 rfl)) (by show (8 : Nat) ∈ _; decide)
            go_simp
            have hA := (Upd.refl (fun _ => False) W).alloc (.cells #[.string n, .string s, .string m, .string r, .slice zz8.1 M.length zz8.2] 93)
            exact hK (some ⟨W.heap.size, 0, none⟩, 1) _ hA ⟨zz8.1, zz8.2, SlR.weaken (SlR.of_own (World.ownsRow_lit (base := w2.heap.size) (e := 93) (size := 5) W #[.string n, .string s, .string m, .string r, .slice zz8.1 M.length zz8.2] 1 hW.size (by unfold maxLen; omega) (by simp))) (fun _ _ => trivial), (g8.ext hA).weaken (fun k hk => Ty24.ext hk hA)⟩
          refine hK _ ?_; clear hK K
          dsimp only
          refine can_end (fun w8 hW hG => ?_)
          have g2 := hG _ (List.mem_append_left _ (List.mem_append_left _ (List.mem_append_right _ (List.mem_singleton.2 rfl))))
          have g10 := hG _ (List.mem_append_right _ (List.mem_singleton.2 rfl))
          dsimp only at g2 g10
          obtain ⟨ya, yc, gs, gt⟩ := g10
          clear hG
          refine mix_two (fun K hK => ?_)
          rw [if_pos (by go_simp)]
          refine step_append_sl _ (.tmp 41) (.tmp 49) 27 rfl w2.heap.size 93 iS (.agg #[.string ⟨#[]⟩, .string ⟨#[]⟩, .string ⟨#[]⟩, .string ⟨#[]⟩, .slice none 0 0]) 5 88 Tryz.underlying27 hi hz0 hz1 hz2 rfl (by decide) (.slice zz2.1 B.length zz2.2) B.length _ rfl g2 (fun _ => True) (.slice zz10.1 1 zz10.2) 1 _ rfl gs (fun u hu => by simp at hu; rcases hu with h | h | h | h | h <;> (subst h; rfl)) (by have := HBL.out; unfold maxLen; omega) (by have := HBL.out; omega) hW.size ?_
          intro v7 w9 hG7
          refine hK _ _ ?_; clear hK K
          have hlt2 : ∀ k, (Value.slice zz2.1 B.length zz2.2).ownBlock = some k → w2.heap.size ≤ k := fun k e => (g2.lt k e).1
          have HE9 : Hid (Ext w w9) := Lib.hid ((HE.out.trans hW).trans' hG7.upd (fun j hj e => by have h1 := hlt2 j e; have h2 := HE.out.size; omega))
          have h89 : w2.heap.size ≤ w9.heap.size := Nat.le_trans hW.size hG7.upd.size
          have HBN : Hid (BnR (fun k => k < w9.heap.size) (fun k => k < w9.heap.size) w9 v7 (B ++ [(n, s, .mk m r M)])) := Lib.hid (by
            refine ⟨us ++ [.slice ya M.length yc], by rw [List.length_append, List.length_append, HUS.out.1]; rfl, ?_, fun i hi => ?_⟩
            · rw [bCells_snoc1 HUS.out.1, List.length_append]
              exact SlR.weaken (SlR.of_own hG7.own) (fun k hk => (hG7.own.lt k hk).2)
            · by_cases e : i < B.length
              · have e1 : Go.Hw.bg (B ++ [(n, s, .mk m r M)]) i = Go.Hw.bg B i := by unfold Go.Hw.bg; rw [List.getD_eq_getElem?_getD, List.getD_eq_getElem?_getD, List.getElem?_append_left e]
                have e2 : ug (us ++ [.slice ya M.length yc]) i = ug us i := by unfold ug; rw [List.getD_eq_getElem?_getD, List.getD_eq_getElem?_getD, List.getElem?_append_left (by rw [HUS.out.1]; exact e)]
                rw [e1, e2]
                exact (((HUS.out.2.2.1 i e).ext hW).kept hG7.upd (fun k hk e => by have h1 := hlt2 k e; omega)).weaken (fun k hk => Nat.lt_of_lt_of_le hk h89)
              · have e0 : i = B.length := by rw [List.length_append] at hi; simp at hi; omega
                have e1 : Go.Hw.bg (B ++ [(n, s, .mk m r M)]) i = (n, s, .mk m r M) := by unfold Go.Hw.bg; rw [List.getD_eq_getElem?_getD, e0, List.getElem?_append_right (Nat.le_refl _), Nat.sub_self]; rfl
                have e2 : ug (us ++ [.slice ya M.length yc]) i = .slice ya M.length yc := by unfold ug; rw [List.getD_eq_getElem?_getD, e0, ← HUS.out.1, List.getElem?_append_right (Nat.le_refl _), Nat.sub_self]; rfl
                rw [e1, e2]
                refine (gt.kept hG7.upd (fun k hk e => ?_)).weaken (fun k hk => ?_)
                · obtain ⟨cs, fz, h1⟩ := hk
                  rcases g2.2 with ⟨h2, _⟩ | ⟨g, cap, cur, h2, _, h3, _⟩
                  · rw [h2] at e; cases e
                  · rw [h2] at e
                    injection e with e
                    rw [← e, h3] at h1
                    injection h1 with h1
                    injection h1 with _ h1
                    cases h1
                · obtain ⟨cs, fz, h1⟩ := hk
                  exact Nat.lt_of_lt_of_le (Array.getElem?_eq_some_iff.1 h1).1 hG7.upd.size)
          clear hG7 g2 gs gt hW hlt2 h89
          refine mix_two (fun K hK => ?_); go_simp; refine hK _ _ ?_; clear hK K
          refine mix_two (fun K hK => ?_); go_simp; refine hK _ _ ?_; clear hK K
          simp only [wpMix]
          go_wp2_with fail
          go_ret2
          rw [HV.out]
          exact ⟨v7, rfl, (fun C h => by injection h with h; rw [← h]; exact HBN.out), HE9.out⟩
      · rw [decide_eq_false hrs] at t3
        have HV : Hid (V = none) := Lib.hid (by rw [← HVV.out]; exact mtB_sort HSN.out ⟨hr0, hrs⟩)
        clear hr0 hrs
        go_wp2_with fail
        go_ret2
        rw [HV.out]
        exact ⟨_, rfl, (fun C h => by cases h), HE.out⟩

end Go.Proofs.YtlkcjmaiahnodaaGreatDoor

/- Instance and Variant, of the reference. -/
namespace Go.Proofs.YtlkcjmaiahnodaaGreatDoor
open Go.RowKit Go.Hw Go
set_option linter.unusedVariables false
set_option linter.unusedSimpArgs false

open Tm Go.Sort Go.Proofs Go.ChangeMaps
theorem mtI_nil' (X : List Vd) : MtI X (fun t => t.size ≤ 100000) [] := MtI.nil _ _
set_option maxRecDepth 100000 in
set_option maxHeartbeats 2000000 in
theorem rinst_x (a b : Tm) (va vb : Value) (w : World) (hA : TmR (fun k => k < w.heap.size) w a va) (hB : TmR (fun k => k < w.heap.size) w b vb) (hsa : a.size ≤ 100000) (hsb : b.size ≤ 100000) (hwa : wf nmB a = true) :
    Calls Tryz.prog 27 #[va, vb] w fun e w' => e = .returned (.bool (mtB a b []).isSome) ∧ Ext w w' := by
  have HA := Lib.hid hA
  have HB := Lib.hid hB
  obtain ⟨aa, ac, rfl, hTa⟩ := hA
  obtain ⟨ba, bc, rfl, hTb⟩ := hB
  have hnp := wf_nop' hwa
  have hvl : (vof a).length ≤ 100000 := Nat.le_trans (vof_len a) hsa
  have HM := Lib.hid (fun W (hW : Ext w W) => matched_x (X := vof a) hvl a b _ _ (.slice none 0 0) [] W ((HA.out.ext hW).weaken (fun k hk => Nat.lt_of_lt_of_le hk hW.size)) ((HB.out.ext hW).weaken (fun k hk => Nat.lt_of_lt_of_le hk hW.size)) (BnR.nil _ _ _) (by omega) hsb hnp (fun f hf => hf) (mtI_nil' _))
  dsimp only [tV] at HM ⊢
  have HZ := Lib.hid (((Upd.refl (fun _ => False) w).alloc (.cells #[.string a.name, .string a.sort, .slice aa a.kids.length ac] 24)).alloc (.cells #[.string b.name, .string b.sort, .slice ba b.kids.length bc] 24))
  have H2 := Lib.hid (allocOld (alloc0 w (.cells #[.string a.name, .string a.sort, .slice aa a.kids.length ac] 24)) (.cells #[.string b.name, .string b.sort, .slice ba b.kids.length bc] 24))
  have H3 := Lib.hid (alloc_at (w.alloc (.cells #[.string a.name, .string a.sort, .slice aa a.kids.length ac] 24)) (.cells #[.string b.name, .string b.sort, .slice ba b.kids.length bc] 24) (n := w.heap.size + 1) (by simp))
  have x0 := cellRow H2.out 0 (.string a.name) rfl
  have x1 := cellRow H2.out 1 (.string a.sort) rfl
  have x2 := cellRow H2.out 2 (.slice aa a.kids.length ac) rfl
  have y0 := cellRow H3.out 0 (.string b.name) rfl
  have y1 := cellRow H3.out 1 (.string b.sort) rfl
  have y2 := cellRow H3.out 2 (.slice ba b.kids.length bc) rfl
  clear hTa hTb hnp hvl
  go_enter Tryz.func27, Tryz.ntmps27
  go_wp2_with fail
  refine (HM.out _ HZ.out).mono ?_
  rintro e w3 ⟨r, rfl, _, hw3⟩
  have HE3 := Lib.hid (HZ.out.trans hw3)
  clear hw3 x0 x1 x2 y0 y1 y2 HM
  go_wp2_with fail
  go_ret
  exact ⟨rfl, HE3.out⟩
set_option maxRecDepth 100000 in
set_option maxHeartbeats 2000000 in
theorem rvari_x (a b : Tm) (va vb : Value) (w : World) (hA : TmR (fun k => k < w.heap.size) w a va) (hB : TmR (fun k => k < w.heap.size) w b vb) (hsa : a.size ≤ 100000) (hsb : b.size ≤ 100000) (hwa : wf nmB a = true) (hwb : wf nmB b = true) :
    Calls Tryz.prog 26 #[va, vb] w fun e w' => e = .returned (.bool ((mtB a b []).isSome && (mtB b a []).isSome)) ∧ Ext w w' := by
  have HA := Lib.hid hA
  have HB := Lib.hid hB
  obtain ⟨aa, ac, rfl, hTa⟩ := hA
  obtain ⟨ba, bc, rfl, hTb⟩ := hB
  have HM := Lib.hid (fun W (hW : Ext w W) => rinst_x a b _ _ W ((HA.out.ext hW).weaken (fun k hk => Nat.lt_of_lt_of_le hk hW.size)) ((HB.out.ext hW).weaken (fun k hk => Nat.lt_of_lt_of_le hk hW.size)) hsa hsb hwa)
  have HN := Lib.hid (fun W (hW : Ext w W) => rinst_x b a _ _ W ((HB.out.ext hW).weaken (fun k hk => Nat.lt_of_lt_of_le hk hW.size)) ((HA.out.ext hW).weaken (fun k hk => Nat.lt_of_lt_of_le hk hW.size)) hsb hsa hwb)
  obtain ⟨b1, hb1⟩ : ∃ x, (mtB a b []).isSome = x := ⟨_, rfl⟩
  obtain ⟨b2, hb2⟩ : ∃ x, (mtB b a []).isSome = x := ⟨_, rfl⟩
  rw [hb1] at HM ⊢
  rw [hb2] at HN ⊢
  dsimp only [tV] at HM HN ⊢
  have HZ := Lib.hid (((Upd.refl (fun _ => False) w).alloc (.cells #[.string a.name, .string a.sort, .slice aa a.kids.length ac] 24)).alloc (.cells #[.string b.name, .string b.sort, .slice ba b.kids.length bc] 24))
  have H2 := Lib.hid (allocOld (alloc0 w (.cells #[.string a.name, .string a.sort, .slice aa a.kids.length ac] 24)) (.cells #[.string b.name, .string b.sort, .slice ba b.kids.length bc] 24))
  have H3 := Lib.hid (alloc_at (w.alloc (.cells #[.string a.name, .string a.sort, .slice aa a.kids.length ac] 24)) (.cells #[.string b.name, .string b.sort, .slice ba b.kids.length bc] 24) (n := w.heap.size + 1) (by simp))
  have x0 := cellRow H2.out 0 (.string a.name) rfl
  have x1 := cellRow H2.out 1 (.string a.sort) rfl
  have x2 := cellRow H2.out 2 (.slice aa a.kids.length ac) rfl
  have y0 := cellRow H3.out 0 (.string b.name) rfl
  have y1 := cellRow H3.out 1 (.string b.sort) rfl
  have y2 := cellRow H3.out 2 (.slice ba b.kids.length bc) rfl
  clear hTa hTb hb1 hb2
  go_enter Tryz.func26, Tryz.ntmps26
  go_wp2_with fail
  refine (HM.out _ HZ.out).mono ?_
  rintro e w3 ⟨rfl, hw3⟩
  have HE3 := Lib.hid (HZ.out.trans hw3)
  have H23 := Lib.hid (hw3.heap H2.out (fun h => h))
  have H33 := Lib.hid (hw3.heap H3.out (fun h => h))
  clear hw3 x0 x1 x2 y0 y1 y2 HM
  have x0 := cellRow H23.out 0 (.string a.name) rfl
  have x1 := cellRow H23.out 1 (.string a.sort) rfl
  have x2 := cellRow H23.out 2 (.slice aa a.kids.length ac) rfl
  have y0 := cellRow H33.out 0 (.string b.name) rfl
  have y1 := cellRow H33.out 1 (.string b.sort) rfl
  have y2 := cellRow H33.out 2 (.slice ba b.kids.length bc) rfl
  cases b1 with
  | false =>
    go_wp2_with fail
    go_ret
    exact ⟨rfl, HE3.out⟩
  | true =>
    go_wp2_with fail
    refine (HN.out _ HE3.out).mono ?_
    rintro e w4 ⟨rfl, hw4⟩
    have HE4 := Lib.hid (HE3.out.trans hw4)
    clear hw4 x0 x1 x2 y0 y1 y2 HN
    go_wp2_with fail
    go_ret
    exact ⟨by simp, HE4.out⟩

end Go.Proofs.YtlkcjmaiahnodaaGreatDoor
