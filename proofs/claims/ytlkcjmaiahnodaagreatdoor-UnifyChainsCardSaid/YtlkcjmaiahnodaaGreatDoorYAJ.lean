/- The texts I71 I72 I73 N8 I43 ShelfS, one behind the other. -/
import Derived.Test.YtlkcjmaiahnodaaGreatDoorYAI
import Derived.Test.YtlkcjmaiahnodaaGreatDoorYAH
import Derived.Deep.DeepCutAuto
import Derived.Test.YtlkcjmaiahnodaaGreatDoorYAG
import Derived.Ground.SlsfProg
import Derived.Shelf.SlSortCmp.InsertionK
import Derived.Shelf.SlSortCmp.SiftDownK
import Derived.Shelf.SlSortCmp.HeapSortK
import Derived.Shelf.SlSortCmp.MedianK
import Derived.Shelf.SlSortCmp.PivotK
import Derived.Shelf.SlSortCmp.ReverseRangeK
import Derived.Shelf.SlSortCmp.PartialInsertionK
import Derived.Shelf.SlSortCmp.PartitionEqualK
import Derived.Shelf.SlSortCmp.PartitionK
import Derived.Shelf.SlSortCmp.PdqK
import Derived.Shelf.SlSortCmp.WholeK
import Derived.Shelf.SlSortCmp.NoneTotal
/- at. -/
namespace Go.Proofs.YtlkcjmaiahnodaaGreatDoor
open Go.RowKit Go.Hw Go
set_option linter.unusedVariables false
set_option linter.unusedSimpArgs false

open Tm
theorem AdrP.snoc {w : World} {i : Nat} : ∀ {p : List Nat} {a a' a'' : Nat × Nat}, AdrP w p a a' → AdrP w [i] a' a'' → AdrP w (p ++ [i]) a a''
  | [], a, a', a'', h, h2 => by
    have h : a' = a := h
    rw [← h]; exact h2
  | j :: p, a, a', a'', h, h2 => by
    obtain ⟨g, off, n, c, h3, h4⟩ := h
    exact ⟨g, off, n, c, h3, AdrP.snoc h4 h2⟩
end Go.Proofs.YtlkcjmaiahnodaaGreatDoor

/- At. -/
namespace Go.Proofs.YtlkcjmaiahnodaaGreatDoor
open Go.RowKit Go.Hw Go
set_option linter.unusedVariables false
set_option linter.unusedSimpArgs false

open Tm
end Go.Proofs.YtlkcjmaiahnodaaGreatDoor

/- Replace. -/
namespace Go.Proofs.YtlkcjmaiahnodaaGreatDoor
open Go.RowKit Go.Hw Go
set_option linter.unusedVariables false
set_option linter.unusedSimpArgs false

open Tm
theorem AdrP.ext {w w' : World} (hE : Ext w w') : ∀ {p : List Nat} {a a' : Nat × Nat}, AdrP w p a a' → AdrP w' p a a'
  | [], _, _, h => h
  | i :: p, a, a', ⟨g, off, n, c, h1, h2⟩ => ⟨g, off, n, c, hE.cell h1 (fun h => h), AdrP.ext hE h2⟩
end Go.Proofs.YtlkcjmaiahnodaaGreatDoor

/- Well-formed, copied, same: of unify. -/
namespace Go.Proofs.YtlkcjmaiahnodaaGreatDoor
open Go.RowKit Go.Hw Go
set_option linter.unusedVariables false
set_option linter.unusedSimpArgs false

open Tm
set_option maxRecDepth 100000 in
set_option maxHeartbeats 2000000 in
theorem uform_x (t : Tm) (v : Value) (w : World) (htab : AscT w) (hR : TmR (fun k => k < w.heap.size) w t v) (hsz : (t.size : Int) ≤ 1000000000000) : Calls Tryz.prog 78 #[v] w fun e w' => e = .returned (.bool (wf nmB t)) ∧ Ext w w' := by
  have HR := Lib.hid hR
  obtain ⟨a, cap, rfl, hT⟩ := hR
  have hb := alloc0 w (.cells #[.string t.name, .string t.sort, .slice a t.kids.length cap] 24)
  have HZ := Lib.hid ((Upd.refl (fun _ => False) w).alloc (.cells #[.string t.name, .string t.sort, .slice a t.kids.length cap] 24))
  have HS := Lib.hid (fun W (hW : Ext w W) => Size_x t _ W (asc_ext htab hW) ((HR.out.ext hW).weaken (fun k hk => Nat.lt_of_lt_of_le hk hW.size)) hsz)
  dsimp only [tV] at HS ⊢
  have c0 := cellRow hb 0 (.string t.name) rfl
  have c1 := cellRow hb 1 (.string t.sort) rfl
  have c2 := cellRow hb 2 (.slice a t.kids.length cap) rfl
  have hpos := size_pos t
  have hz : decide (0 < szF t) = wf nmB t := by
    unfold szF
    by_cases h : wf nmB t = true
    · rw [if_pos h, h, decide_eq_true (by omega)]
    · rw [if_neg h, Bool.eq_false_iff.2 h]; rfl
  have HV := Lib.hid hz
  obtain ⟨X, hX⟩ : ∃ X, szF t = X := ⟨_, rfl⟩
  rw [hX] at HS HV
  clear hz hX hT hb
  go_enter Tryz.func78, Tryz.ntmps78
  go_wp2_with fail
  refine (HS.out _ HZ.out).mono ?_
  rintro e w4 ⟨rfl, hw4⟩
  have H4 := Lib.hid (HZ.out.ext hw4)
  clear hw4 c0 c1 c2
  by_cases h0 : 0 < X
  · have t0 : (0 : Int) < (X : Int) := by omega
    have t1 : decide ((0 : Int) < (X : Int)) = true := decide_eq_true t0
    have HV2 : Hid (wf nmB t = true) := Lib.hid (by rw [← HV.out]; exact decide_eq_true h0)
    go_wp2_with fail
    go_ret
    rw [HV2.out]
    exact ⟨rfl, H4.out⟩
  · have t0 : ¬ (0 : Int) < (X : Int) := by omega
    have t1 : decide ((0 : Int) < (X : Int)) = false := decide_eq_false t0
    have HV2 : Hid (wf nmB t = false) := Lib.hid (by rw [← HV.out]; exact decide_eq_false h0)
    go_wp2_with fail
    go_ret
    rw [HV2.out]
    exact ⟨rfl, H4.out⟩
set_option maxRecDepth 100000 in
set_option maxHeartbeats 2000000 in
theorem ucopied_x : ∀ (t : Tm) (v : Value) (S : Nat → Prop) (w : World), TmR S w t v → (∀ k, S k → k < w.heap.size) → t.size ≤ 100000 →
    Calls Tryz.prog 96 #[v] w fun e w' => ∃ r B, e = .returned (tV t r) ∧ TlO 24 w' B t.kids r ∧ (∀ j, B j → w.heap.size ≤ j ∧ j < w'.heap.size) ∧ Ext w w' := by
  refine Tm.ind (fun nm so L ih => ?_)
  intro v S w hT hS hsz
  obtain ⟨a, cap, rfl, hT⟩ := hT
  dsimp only [tV, Tm.name, Tm.sort, Tm.kids] at hT ⊢
  have HTL := Lib.hid hT
  have HIH := Lib.hid ih
  have HSS := Lib.hid hS
  have hszL : sizes L + 1 ≤ 100000 := by rw [size_eq] at hsz; simp only [Tm.kids] at hsz; omega
  have HSL := Lib.hid hszL
  have hlL : L.length ≤ 100000 := by have h1 := length_le_sizes L; omega
  have hx3 := (((Upd.refl (fun _ => False) w).alloc (.cells #[.string nm, .string so, .slice a L.length cap] 24)).alloc (.cells #[.string ⟨#[]⟩, .string ⟨#[]⟩, .slice none 0 0] 24)).alloc (.cells #[.string nm, .string so, .slice none 0 0] 24)
  have hb2 := allocOld (alloc_at (w.alloc (.cells #[.string nm, .string so, .slice a L.length cap] 24)) (.cells #[.string ⟨#[]⟩, .string ⟨#[]⟩, .slice none 0 0] 24) (n := w.heap.size + 1) (by simp)) (.cells #[.string nm, .string so, .slice none 0 0] 24)
  have hb3 := alloc_at ((w.alloc (.cells #[.string nm, .string so, .slice a L.length cap] 24)).alloc (.cells #[.string ⟨#[]⟩, .string ⟨#[]⟩, .slice none 0 0] 24)) (.cells #[.string nm, .string so, .slice none 0 0] 24) (n := w.heap.size + 1 + 1) (by simp)
  have hz0 : (((w.alloc (.cells #[.string nm, .string so, .slice a L.length cap] 24)).alloc (.cells #[.string ⟨#[]⟩, .string ⟨#[]⟩, .slice none 0 0] 24)).alloc (.cells #[.string nm, .string so, .slice none 0 0] 24)).heap.size = w.heap.size + 3 := by simp
  have HB2 := Lib.hid hb2
  have HB3 := Lib.hid hb3
  have HE0 := Lib.hid hx3
  have HZ0 := Lib.hid hz0
  clear ih hT hS hsz hszL
  clear hb2 hb3 hx3 hz0
  go_enter Tryz.func96, Tryz.ntmps96
  go_wp2_with fail
  generalize (((w.alloc (.cells #[.string nm, .string so, .slice a L.length cap] 24)).alloc (.cells #[.string ⟨#[]⟩, .string ⟨#[]⟩, .slice none 0 0] 24)).alloc (.cells #[.string nm, .string so, .slice none 0 0] 24)) = W0 at *
  obtain ⟨n3, hn3⟩ : ∃ n3, w.heap.size + 1 + 1 = n3 := ⟨_, rfl⟩
  rw [hn3] at HB3 ⊢
  have HN3 := Lib.hid hn3
  clear hn3
  have HJ0 : Hid (CpJ 24 (w.heap.size + 3) W0 L (.slice none 0 0) [] (fun _ _ => False) 0) := Lib.hid ⟨rfl, ⟨rfl, .inl ⟨rfl, rfl⟩⟩, fun i hi => absurd hi (Nat.not_lt_zero _), fun i j hi => absurd hi (Nat.not_lt_zero _), fun i i' j hi => absurd hi (Nat.not_lt_zero _)⟩
  have HSW0 : Hid (w.heap.size + 3 ≤ W0.heap.size) := Lib.hid (by rw [HZ0.out]; exact Nat.le_refl _)
  clear HZ0
  go_loopg [14] L.length (fun gk iv wr => ∃ (k : Nat) (lv : Value) (us : List Value) (Bk : Nat → Nat → Prop), iv = .int .i64 (k : Int) ∧ gk = L.length - k ∧ k ≤ L.length ∧ Hid (CpJ 24 (w.heap.size + 3) wr L lv us Bk k) ∧ Hid (wr.heap[w.heap.size + 1]? = some (.cells #[.string ⟨#[]⟩, .string ⟨#[]⟩, .slice none 0 0] 24 (0, 0))) ∧ Hid (wr.heap[n3]? = some (.cells #[.string nm, .string so, lv] 24 (0, 0))) ∧ Hid (Ext w wr) ∧ Hid (w.heap.size + 3 ≤ wr.heap.size))
  case atStart => exact ⟨0, _, _, _, rfl, rfl, Nat.zero_le _, HJ0, HB2, HB3, HE0, HSW0⟩
  case round =>
    clear HJ0 HB2 HB3 HE0 HSW0
    obtain ⟨k, lv, us, Bk, rfl, rfl, hk, HJ, HB2, HB3, HE, HSZ⟩ := hrel
    obtain ⟨la, lc, hlv⟩ := own_shape HJ.out.own
    subst hlv
    by_cases hlt : k < L.length
    · obtain ⟨g, off, hga, _, hat⟩ := (HTL.out.ext HE.out).at_ (by omega)
      subst hga
      obtain ⟨xa, xc, q0, q1, q2, hkid⟩ := hat k hlt
      rw [← Nat.add_assoc] at q1 q2
      have z0 : (0 : Int) ≤ (k : Int) := by omega
      have z1 : (k : Int) < (L.length : Int) := by omega
      have z2 : decide ((k : Int) < (L.length : Int)) = true := decide_eq_true z1
      have z2' : decide (k < L.length) = true := decide_eq_true hlt
      have HIX := Lib.hid (fun W (hW : Ext (wr.alloc (.cells #[.string (tg L k).name, .string (tg L k).sort, .slice xa (tg L k).kids.length xc] 24)) W) => HIH.out (tg L k) (tg_mem L k hlt) _ S W ⟨xa, xc, rfl, (hkid.ext ((Upd.refl (fun _ => False) wr).alloc _)).ext hW⟩ (fun j hj => Nat.lt_of_lt_of_le (HSS.out j hj) (Nat.le_trans HE.out.size (Nat.le_trans ((Upd.refl (fun _ => False) wr).alloc (.cells #[.string (tg L k).name, .string (tg L k).sort, .slice xa (tg L k).kids.length xc] 24)).size hW.size))) (by have h1 := HSL.out; have h2 := sizes_take L k hlt; have h3 := sizes_take_le L (k + 1); omega))
      dsimp only [tV] at HIX
      obtain ⟨x, hx⟩ : ∃ x, tg L k = x := ⟨_, rfl⟩
      have HX := Lib.hid hx
      rw [hx] at q0 q1 q2 HIX
      have hQ := (Upd.refl (fun _ => False) wr).alloc (.cells #[.string x.name, .string x.sort, .slice xa x.kids.length xc] 24)
      have hB5 := alloc0 wr (.cells #[.string x.name, .string x.sort, .slice xa x.kids.length xc] 24)
      have b0 := cellRow hB5 0 (.string x.name) rfl
      have b1 := cellRow hB5 1 (.string x.sort) rfl
      have b2 := cellRow hB5 2 (.slice xa x.kids.length xc) rfl
      have hB3q := allocOld HB3.out (.cells #[.string x.name, .string x.sort, .slice xa x.kids.length xc] 24)
      have c2 := cellRow hB3q 2 (.slice la k lc) rfl
      have HBQ := Lib.hid hB3q
      have HQ := Lib.hid hQ
      have HB2Q := Lib.hid (allocOld HB2.out (.cells #[.string x.name, .string x.sort, .slice xa x.kids.length xc] 24))
      have HOQ := Lib.hid (HJ.out.own.alloc (.cells #[.string x.name, .string x.sort, .slice xa x.kids.length xc] 24))
      have HRN : Hid (¬ (Value.slice la k lc).ownBlock = some n3) := Lib.hid (fun e => by have h1 := (HJ.out.own.lt n3 e).1; have := HN3.out; omega)
      have HK : Hid (k ≤ 100000) := Lib.hid (by omega)
      obtain ⟨iT, hi, hz0, hz1, hz2⟩ := info_parts infoT
      clear hat hkid hx hQ hB5 hB3q
      go_wp2_with fail
      generalize wr.alloc (.cells #[.string x.name, .string x.sort, .slice xa x.kids.length xc] 24) = wq at *
      have HWQ : Hid (Ext wq wq) := Lib.hid (Upd.refl _ _)
      have HSQ : Hid (w.heap.size + 3 ≤ wq.heap.size) := Lib.hid (Nat.le_trans HSZ.out HQ.out.size)
      clear q0 q1 q2
      go_region_law (first
  | (refine step_append_at _ (.tmp 19) (.tmp 22) 22 rfl (w.heap.size + 3) 24 iT (.agg #[.string ⟨#[]⟩, .string ⟨#[]⟩, .slice none 0 0]) 3 56 Tryz.underlying22 hi hz0 hz1 hz2 rfl (by decide) _ _ _ rfl HOW5.out _ 1 1 [.string x.name, .string x.sort, .slice ya x.kids.length yc] rfl rfl HNEW.out HONE.out HLM.out.1 HLM.out.2.1 HLM.out.2.2 ?_; intro v7 w7 hG7; obtain ⟨a7, c7, hv7⟩ := own_shape hG7.own; subst hv7; have hB7 := hG7.upd.heap (allocOld HB5.out (.cells #[.string x.name, .string x.sort, .slice ya x.kids.length yc] 24)) HRN.out; have f7 := fun i => frozenRow hB7 i; have c2 := cellRow hB7 2 (.slice la k lc) rfl; have HB7 := Lib.hid hB7; have HG7 := Lib.hid hG7; clear hG7 hB7)
  | (go_simp; refine (HIX.out wq.drew HWQ.out.drew).mono ?_; rintro e w5 ⟨r, Bx, rfl, hT5, hb5, hw5⟩; obtain ⟨ya, yc, hry⟩ := TlO.shape hT5; subst hry; have HW5 : Hid (Ext wq w5) := Lib.hid (((Upd.refl (fun _ => False) wq).drewN' 1).trans hw5); have HT5 := Lib.hid hT5; have HBX5 : Hid (∀ j, Bx j → wq.heap.size ≤ j ∧ j < w5.heap.size) := Lib.hid hb5; have HB5 := Lib.hid (HW5.out.heap HBQ.out (fun h => h)); have HOW5 : Hid ((w5.alloc (.cells #[.string x.name, .string x.sort, .slice ya x.kids.length yc] 24)).ownsRow (w.heap.size + 3) 24 3 (.slice la k lc) k (tCells (L.take k) us)) := Lib.hid ((own_kept HOQ.out HW5.out (fun _ _ h => h)).alloc _); have HNEW : Hid (∀ (j : Nat) (u : Value), [Value.string x.name, .string x.sort, .slice ya x.kids.length yc][j]? = some u → (w5.alloc (.cells #[.string x.name, .string x.sort, .slice ya x.kids.length yc] 24)).cell? ((⟨w5.heap.size, 0, none⟩ : Addr).add j) = some u) := Lib.hid (new3 w5 _ _ _ 24); have HONE : Hid (∀ u ∈ [Value.string x.name, .string x.sort, .slice ya x.kids.length yc], u.oneCell' = true) := Lib.hid (fun u hu => by simp at hu; rcases hu with h | h | h <;> (subst h; rfl)); have HLM : Hid (k + 1 ≤ maxLen ∧ (k + 1) * 56 ≤ 140737488355328 ∧ w.heap.size + 3 ≤ (w5.alloc (.cells #[.string x.name, .string x.sort, .slice ya x.kids.length yc] 24)).heap.size) := Lib.hid ⟨by unfold maxLen; have := HK.out; omega, by have := HK.out; omega, by have h1 := HW5.out.size; have h2 := HSQ.out; simp; omega⟩; have c5 := HW5.out.cell c2 (fun h => h); have c6 := ((Upd.refl (fun _ => False) w5).alloc (.cells #[.string x.name, .string x.sort, .slice ya x.kids.length yc] 24)).cell c5 (fun h => h); clear hT5 hb5 hw5))
      all_goals
        go_wp2_with fail
        have HS8 := Lib.hid ((Upd.refl (fun j => j = n3) w7).setCell (p := ⟨n3, 2, none⟩) (.inl rfl) (.slice a7 (k + 1) c7))
        have HU8 : Hid (Upd (fun j => (Value.slice la k lc).ownBlock = some j ∨ j = n3) wq (w7.setCell ⟨n3, 2, none⟩ (.slice a7 (k + 1) c7))) := Lib.hid (((((HW5.out.alloc (.cells #[.string x.name, .string x.sort, .slice ya x.kids.length yc] 24)).mono (fun _ _ x => x.elim)).trans (HG7.out.upd.mono (fun _ _ e => .inl e)))).trans (HS8.out.mono (fun _ _ e => .inr e)))
        have HJ8 := Lib.hid (HJ.out.grow hlt HX.out (by have := HN3.out; omega) HSZ.out HQ.out HW5.out HT5.out HBX5.out ((Upd.refl (fun _ => False) w5).alloc (.cells #[.string x.name, .string x.sort, .slice ya x.kids.length yc] 24)) HG7.out HS8.out)
        have HE8 : Hid (Ext w (w7.setCell ⟨n3, 2, none⟩ (.slice a7 (k + 1) c7))) := Lib.hid ((HE.out.trans HQ.out).trans' HU8.out (fun j hj e => by
          rcases e with e | e
          · have h1 := (HJ.out.own.lt j e).1; omega
          · have := HN3.out; omega))
        have HB28 := Lib.hid (HU8.out.heap HB2Q.out (fun e => by
          rcases e with e | e
          · have h1 := (HJ.out.own.lt _ e).1; omega
          · have := HN3.out; omega))
        have hb38 := setBlock HB7.out 2 (.slice a7 (k + 1) c7)
        have HB38 : Hid ((w7.setCell ⟨n3, 2, none⟩ (.slice a7 (k + 1) c7)).heap[n3]? = some (.cells #[.string nm, .string so, .slice a7 (k + 1) c7] 24 (0, 0))) := Lib.hid (by simpa using hb38)
        have HS9 : Hid (w.heap.size + 3 ≤ (w7.setCell ⟨n3, 2, none⟩ (.slice a7 (k + 1) c7)).heap.size) := Lib.hid (Nat.le_trans HSQ.out HU8.out.size)
        clear hb38 c2 f7
        go_roundg (L.length - (k + 1))
        case measure => omega
        case rel => exact ⟨k + 1, _, _, _, by go_num, rfl, by omega, HJ8, HB28, HB38, HE8, HS9⟩
    · obtain rfl : k = L.length := by omega
      have z2 : decide ((L.length : Int) < (L.length : Int)) = false := decide_eq_false (by omega)
      have c0 := cellRow HB3.out 0 (.string nm) rfl
      have c1 := cellRow HB3.out 1 (.string so) rfl
      have c2 := cellRow HB3.out 2 (.slice la L.length lc) rfl
      have f2 := fun i => frozenRow HB2.out i
      have d0 := cellRow HB2.out 0 (.string ⟨#[]⟩) rfl
      have d1 := cellRow HB2.out 1 (.string ⟨#[]⟩) rfl
      have d2 := cellRow HB2.out 2 (.slice none 0 0) rfl
      go_wp2_with fail
      have hr := st3_heap HB2.out (.string nm) (.string so) (.slice la L.length lc)
      have hu := st3_upd' wr (w.heap.size + 1) (.string nm) (.string so) (.slice la L.length lc)
      have e0 := cellRow hr 0 _ rfl
      have e1 := cellRow hr 1 _ rfl
      have e2 := cellRow hr 2 _ rfl
      refine bodyPost_ret (v := .agg #[.string nm, .string so, .slice la L.length lc]) (by simp [results, Tryz.results172, go_sem, e0, e1, e2]) rfl ⟨.slice la L.length lc, _, rfl, HJ.out.fin.kept hu (fun j hj e => by have h1 := hj.1; omega), fun j hj => ⟨by have h1 := hj.1; omega, Nat.lt_of_lt_of_le hj.2 hu.size⟩, HE.out.trans' hu (fun j hj e => by omega)⟩

end Go.Proofs.YtlkcjmaiahnodaaGreatDoor

/- Clone and Delete. -/
namespace Go.Proofs.YtlkcjmaiahnodaaGreatDoor
open Go.RowKit Go.Hw Go
set_option linter.unusedVariables false
set_option linter.unusedSimpArgs false

open Tm
end Go.Proofs.YtlkcjmaiahnodaaGreatDoor

/- Further contracts of the library, laid. -/
namespace Go.Proofs
open Go.Shelf
def Tryz.laysSlF06_f97_ren : Go.Shelf.Ren := ⟨fun | 6 => 97 | 15 => 160 | 14 => 159 | 28 => 207 | 29 => 208 | 20 => 199 | 21 => 200 | 22 => 201 | 23 => 202 | 24 => 203 | 25 => 204 | 26 => 205 | 27 => 206 | 46 => 231 | 47 => 232 | 48 => 233 | 49 => 234 | 50 => 235 | 57 => 244 | n => n, fun | 22 => 27 | 24 => 93 | 25 => 141 | 3 => 3 | 39 => 195 | 0 => 0 | 53 => 236 | 55 => 238 | 4 => 4 | 46 => 230 | 45 => 229 | 50 => 136 | 5 => 5 | 9 => 9 | 66 => 251 | 70 => 96 | 76 => 263 | 77 => 191 | n => n, fun | n => n⟩
theorem Tryz.laysSlF06_f97 : Go.Proofs.SlLaysF0.n6 Tryz.prog Tryz.laysSlF06_f97_ren := {
  mixed := by kernel_rfl
  f6 := ⟨Tryz.f97.name, by decide, Tryz.func97.trans (congrArg some (by kernel_rfl))⟩
  f14 := ⟨Tryz.f159.name, by decide, Tryz.func159.trans (congrArg some (by kernel_rfl))⟩
  f15 := Tryz.func160.trans (congrArg some (by kernel_rfl))
  f20 := ⟨Tryz.f199.name, by decide, Tryz.func199.trans (congrArg some (by kernel_rfl))⟩
  f21 := ⟨Tryz.f200.name, by decide, Tryz.func200.trans (congrArg some (by kernel_rfl))⟩
  f22 := ⟨Tryz.f201.name, by decide, Tryz.func201.trans (congrArg some (by kernel_rfl))⟩
  f23 := ⟨Tryz.f202.name, by decide, Tryz.func202.trans (congrArg some (by kernel_rfl))⟩
  f24 := ⟨Tryz.f203.name, by decide, Tryz.func203.trans (congrArg some (by kernel_rfl))⟩
  f25 := ⟨Tryz.f204.name, by decide, Tryz.func204.trans (congrArg some (by kernel_rfl))⟩
  f26 := ⟨Tryz.f205.name, by decide, Tryz.func205.trans (congrArg some (by kernel_rfl))⟩
  f27 := ⟨Tryz.f206.name, by decide, Tryz.func206.trans (congrArg some (by kernel_rfl))⟩
  f28 := Tryz.func207.trans (congrArg some (by kernel_rfl))
  f29 := Tryz.func208.trans (congrArg some (by kernel_rfl))
  f46 := ⟨Tryz.f231.name, by decide, Tryz.func231.trans (congrArg some (by kernel_rfl))⟩
  f47 := Tryz.func232.trans (congrArg some (by kernel_rfl))
  f48 := Tryz.func233.trans (congrArg some (by kernel_rfl))
  f49 := ⟨Tryz.f234.name, by decide, Tryz.func234.trans (congrArg some (by kernel_rfl))⟩
  f50 := ⟨Tryz.f235.name, by decide, Tryz.func235.trans (congrArg some (by kernel_rfl))⟩
  f57 := ⟨Tryz.f244.name, by decide, Tryz.func244.trans (congrArg some (by kernel_rfl))⟩
  t0 := Tryz.underlying0
  a0 := Tryz.isAgg0
  z0 := Tryz.sizeOf0
  v0 := Tryz.zeroValue0
  t3 := Tryz.underlying3
  a3 := Tryz.isAgg3
  z3 := Tryz.sizeOf3
  v3 := Tryz.zeroValue3
  t4 := Tryz.underlying4
  a4 := Tryz.isAgg4
  z4 := Tryz.sizeOf4
  v4 := Tryz.zeroValue4
  t5 := Tryz.underlying5
  a5 := Tryz.isAgg5
  z5 := Tryz.sizeOf5
  v5 := Tryz.zeroValue5
  t9 := Tryz.underlying9
  a9 := Tryz.isAgg9
  z9 := Tryz.sizeOf9
  v9 := Tryz.zeroValue9
  t22 := Tryz.underlying27
  a22 := Tryz.isAgg27
  z22 := Tryz.sizeOf27
  v22 := Tryz.zeroValue27
  t25 := Tryz.underlying141
  a25 := Tryz.isAgg141
  z25 := Tryz.sizeOf141
  v25 := Tryz.zeroValue141
  t39 := Tryz.underlying195
  a39 := Tryz.isAgg195
  z39 := Tryz.sizeOf195
  v39 := Tryz.zeroValue195
  t45 := Tryz.underlying229
  a45 := Tryz.isAgg229
  z45 := Tryz.sizeOf229
  v45 := Tryz.zeroValue229
  t46 := Tryz.underlying230
  a46 := Tryz.isAgg230
  z46 := Tryz.sizeOf230
  v46 := Tryz.zeroValue230
  t50 := Tryz.underlying136
  a50 := Tryz.isAgg136
  z50 := Tryz.sizeOf136
  v50 := Tryz.zeroValue136
  t53 := Tryz.underlying236
  a53 := Tryz.isAgg236
  z53 := Tryz.sizeOf236
  v53 := Tryz.zeroValue236
  t55 := Tryz.underlying238
  a55 := Tryz.isAgg238
  z55 := Tryz.sizeOf238
  v55 := Tryz.zeroValue238
  t66 := Tryz.underlying251
  a66 := Tryz.isAgg251
  z66 := Tryz.sizeOf251
  v66 := Tryz.zeroValue251
  t70 := Tryz.underlying96
  a70 := Tryz.isAgg96
  z70 := Tryz.sizeOf96
  v70 := Tryz.zeroValue96
  t76 := Tryz.underlying263
  a76 := Tryz.isAgg263
  z76 := Tryz.sizeOf263
  v76 := Tryz.zeroValue263
  t77 := Tryz.underlying191
  a77 := Tryz.isAgg191
  z77 := Tryz.sizeOf191
  v77 := Tryz.zeroValue191 }
def Tryz.laysSlF06_f140_ren : Go.Shelf.Ren := ⟨fun | 6 => 140 | 15 => 160 | 14 => 191 | 28 => 207 | 29 => 208 | 20 => 220 | 21 => 221 | 22 => 222 | 23 => 223 | 24 => 224 | 25 => 225 | 26 => 226 | 27 => 227 | 46 => 238 | 47 => 232 | 48 => 233 | 49 => 239 | 50 => 240 | 57 => 245 | n => n, fun | 22 => 111 | 24 => 116 | 25 => 182 | 3 => 3 | 39 => 195 | 0 => 0 | 53 => 236 | 55 => 238 | 4 => 4 | 46 => 230 | 45 => 229 | 50 => 136 | 5 => 5 | 9 => 9 | 66 => 251 | 70 => 96 | 76 => 263 | 77 => 191 | n => n, fun | n => n⟩
theorem Tryz.laysSlF06_f140 : Go.Proofs.SlLaysF0.n6 Tryz.prog Tryz.laysSlF06_f140_ren := {
  mixed := by kernel_rfl
  f6 := ⟨Tryz.f140.name, by decide, Tryz.func140.trans (congrArg some (by kernel_rfl))⟩
  f14 := ⟨Tryz.f191.name, by decide, Tryz.func191.trans (congrArg some (by kernel_rfl))⟩
  f15 := Tryz.func160.trans (congrArg some (by kernel_rfl))
  f20 := ⟨Tryz.f220.name, by decide, Tryz.func220.trans (congrArg some (by kernel_rfl))⟩
  f21 := ⟨Tryz.f221.name, by decide, Tryz.func221.trans (congrArg some (by kernel_rfl))⟩
  f22 := ⟨Tryz.f222.name, by decide, Tryz.func222.trans (congrArg some (by kernel_rfl))⟩
  f23 := ⟨Tryz.f223.name, by decide, Tryz.func223.trans (congrArg some (by kernel_rfl))⟩
  f24 := ⟨Tryz.f224.name, by decide, Tryz.func224.trans (congrArg some (by kernel_rfl))⟩
  f25 := ⟨Tryz.f225.name, by decide, Tryz.func225.trans (congrArg some (by kernel_rfl))⟩
  f26 := ⟨Tryz.f226.name, by decide, Tryz.func226.trans (congrArg some (by kernel_rfl))⟩
  f27 := ⟨Tryz.f227.name, by decide, Tryz.func227.trans (congrArg some (by kernel_rfl))⟩
  f28 := Tryz.func207.trans (congrArg some (by kernel_rfl))
  f29 := Tryz.func208.trans (congrArg some (by kernel_rfl))
  f46 := ⟨Tryz.f238.name, by decide, Tryz.func238.trans (congrArg some (by kernel_rfl))⟩
  f47 := Tryz.func232.trans (congrArg some (by kernel_rfl))
  f48 := Tryz.func233.trans (congrArg some (by kernel_rfl))
  f49 := ⟨Tryz.f239.name, by decide, Tryz.func239.trans (congrArg some (by kernel_rfl))⟩
  f50 := ⟨Tryz.f240.name, by decide, Tryz.func240.trans (congrArg some (by kernel_rfl))⟩
  f57 := ⟨Tryz.f245.name, by decide, Tryz.func245.trans (congrArg some (by kernel_rfl))⟩
  t0 := Tryz.underlying0
  a0 := Tryz.isAgg0
  z0 := Tryz.sizeOf0
  v0 := Tryz.zeroValue0
  t3 := Tryz.underlying3
  a3 := Tryz.isAgg3
  z3 := Tryz.sizeOf3
  v3 := Tryz.zeroValue3
  t4 := Tryz.underlying4
  a4 := Tryz.isAgg4
  z4 := Tryz.sizeOf4
  v4 := Tryz.zeroValue4
  t5 := Tryz.underlying5
  a5 := Tryz.isAgg5
  z5 := Tryz.sizeOf5
  v5 := Tryz.zeroValue5
  t9 := Tryz.underlying9
  a9 := Tryz.isAgg9
  z9 := Tryz.sizeOf9
  v9 := Tryz.zeroValue9
  t22 := Tryz.underlying111
  a22 := Tryz.isAgg111
  z22 := Tryz.sizeOf111
  v22 := Tryz.zeroValue111
  t25 := Tryz.underlying182
  a25 := Tryz.isAgg182
  z25 := Tryz.sizeOf182
  v25 := Tryz.zeroValue182
  t39 := Tryz.underlying195
  a39 := Tryz.isAgg195
  z39 := Tryz.sizeOf195
  v39 := Tryz.zeroValue195
  t45 := Tryz.underlying229
  a45 := Tryz.isAgg229
  z45 := Tryz.sizeOf229
  v45 := Tryz.zeroValue229
  t46 := Tryz.underlying230
  a46 := Tryz.isAgg230
  z46 := Tryz.sizeOf230
  v46 := Tryz.zeroValue230
  t50 := Tryz.underlying136
  a50 := Tryz.isAgg136
  z50 := Tryz.sizeOf136
  v50 := Tryz.zeroValue136
  t53 := Tryz.underlying236
  a53 := Tryz.isAgg236
  z53 := Tryz.sizeOf236
  v53 := Tryz.zeroValue236
  t55 := Tryz.underlying238
  a55 := Tryz.isAgg238
  z55 := Tryz.sizeOf238
  v55 := Tryz.zeroValue238
  t66 := Tryz.underlying251
  a66 := Tryz.isAgg251
  z66 := Tryz.sizeOf251
  v66 := Tryz.zeroValue251
  t70 := Tryz.underlying96
  a70 := Tryz.isAgg96
  z70 := Tryz.sizeOf96
  v70 := Tryz.zeroValue96
  t76 := Tryz.underlying263
  a76 := Tryz.isAgg263
  z76 := Tryz.sizeOf263
  v76 := Tryz.zeroValue263
  t77 := Tryz.underlying191
  a77 := Tryz.isAgg191
  z77 := Tryz.sizeOf191
  v77 := Tryz.zeroValue191 }
open Go.RowKit Go.Lib Go.Sort in
theorem Tryz.slices_SortFunc_f97 {α : Type} [Inhabited α] (k : Nat) (aE : ∀ w, (isAgg (Tryz.laysSlF06_f97_ren.t 24)).run Tryz.prog w = .ok true w) (zE : ∀ w, (Go.sizeOf (Tryz.laysSlF06_f97_ren.t 24)).run Tryz.prog w = .ok k w) (enc : α → List Value) (hk : ∀ x, (enc x).length = k) (h1 : ∀ x, ∀ v ∈ enc x, v.oneCell' = true) (cf : α → α → Int) (hO : SWO (ltOf cf)) (g : Nat) (cb : Array Value) (blk off cap : Nat) (d : Array α) (w : World) (eg : ∀ args w, (callFunc g args).run Tryz.prog w = .ok (.enter g args) w) (hcmp : CmpLays Tryz.prog g cb enc k cf blk off d.size w) (hH : HoldsK enc k w blk off d) (hblk : blk < w.heap.size) (hsz : d.size < 4611686018427387904) :
    Calls Tryz.prog 97 #[.slice (some ⟨blk, off, none⟩) d.size cap, .func (.func g) #[] cb] w fun e w' =>
      e = .returned (.tuple #[]) ∧ ∃ d' n os, PermIn 0 d.size d d' ∧ SortedIn (ltOf cf) 0 d.size d' ∧ w' = sortWorldK enc k w blk off n d' os := AnyQ.slices_SortFunc Tryz.laysSlF06_f97 k aE zE enc hk h1 cf hO g cb blk off cap d w eg hcmp hH hblk hsz
open Go.RowKit Go.Lib Go.Sort in
theorem Tryz.slices_SortFunc_f140 {α : Type} [Inhabited α] (k : Nat) (aE : ∀ w, (isAgg (Tryz.laysSlF06_f140_ren.t 24)).run Tryz.prog w = .ok true w) (zE : ∀ w, (Go.sizeOf (Tryz.laysSlF06_f140_ren.t 24)).run Tryz.prog w = .ok k w) (enc : α → List Value) (hk : ∀ x, (enc x).length = k) (h1 : ∀ x, ∀ v ∈ enc x, v.oneCell' = true) (cf : α → α → Int) (hO : SWO (ltOf cf)) (g : Nat) (cb : Array Value) (blk off cap : Nat) (d : Array α) (w : World) (eg : ∀ args w, (callFunc g args).run Tryz.prog w = .ok (.enter g args) w) (hcmp : CmpLays Tryz.prog g cb enc k cf blk off d.size w) (hH : HoldsK enc k w blk off d) (hblk : blk < w.heap.size) (hsz : d.size < 4611686018427387904) :
    Calls Tryz.prog 140 #[.slice (some ⟨blk, off, none⟩) d.size cap, .func (.func g) #[] cb] w fun e w' =>
      e = .returned (.tuple #[]) ∧ ∃ d' n os, PermIn 0 d.size d d' ∧ SortedIn (ltOf cf) 0 d.size d' ∧ w' = sortWorldK enc k w blk off n d' os := AnyQ.slices_SortFunc Tryz.laysSlF06_f140 k aE zE enc hk h1 cf hO g cb blk off cap d w eg hcmp hH hblk hsz
open Go.RowKit Go.Lib Go.Sort in
theorem Tryz.slices_SortFunc_none_f97 {α : Type} [Inhabited α] (p : Option Addr) (cap : Nat) (fv : Value) (w : World) :
    Calls Tryz.prog 97 #[.slice p 0 cap, fv] w fun e w' => e = .returned (.tuple #[]) ∧ w' = w := AnyF.slices_SortFunc_none Tryz.laysSlF06_f97 p cap fv w
open Go.RowKit Go.Lib Go.Sort in
theorem Tryz.slices_SortFunc_none_f140 {α : Type} [Inhabited α] (p : Option Addr) (cap : Nat) (fv : Value) (w : World) :
    Calls Tryz.prog 140 #[.slice p 0 cap, fv] w fun e w' => e = .returned (.tuple #[]) ∧ w' = w := AnyF.slices_SortFunc_none Tryz.laysSlF06_f140 p cap fv w
end Go.Proofs
