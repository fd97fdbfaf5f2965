/- The texts I90 I91 TY TZ TYK I92 I93 I94 I71, one behind the other. -/
import Derived.Test.YtiimccogojkldaaGreatDoorYAL
import Derived.Test.YtiimccogojkldaaGreatDoorYAI
import Derived.Test.YtiimccogojkldaaGreatDoorYAJ
import Derived.Test.YtiimccogojkldaaGreatDoorYAB
import Derived.Test.YtiimccogojkldaaGreatDoorYAA
import Derived.Test.YtiimccogojkldaaGreatDoorYAG
import Derived.Test.YtiimccogojkldaaGreatDoorYAK
/- copied of the rewrite package. -/
namespace Go.Proofs.YtiimccogojkldaaGreatDoor
open Go.RowKit Go.Hw Go
set_option linter.unusedVariables false
set_option linter.unusedSimpArgs false

open Tm
set_option maxRecDepth 100000 in
set_option maxHeartbeats 2000000 in
theorem rcopied_x : ∀ (t : Tm) (v : Value) (S : Nat → Prop) (w : World), TmR S w t v → (∀ k, S k → k < w.heap.size) → t.size ≤ 100000 →
    Calls Tryz.prog 121 #[v] w fun e w' => ∃ r B, e = .returned (tV t r) ∧ TlO 25 w' B t.kids r ∧ (∀ j, B j → w.heap.size ≤ j ∧ j < w'.heap.size) ∧ Ext w w' := by
  refine Tm.ind (fun nm so L ih => ?_)
  intro v S w hT hS hsz
  obtain ⟨a, cap, rfl, hT⟩ := hT
  dsimp only [tV, Tm.name, Tm.sort, Tm.kids] at hT ⊢
  have HTL := Lib.hid hT
  have HIH := Lib.hid ih
  have HSS := Lib.hid hS
  have hszL : sizes L + 1 ≤ 100000 := by rw [size_eq] at hsz; simp only [Tm.kids] at hsz; omega
  have HSL := Lib.hid hszL
  have hlL : L.length ≤ 100000 := by have h1 := length_le_sizes L; omega
  have hx3 := (((Upd.refl (fun _ => False) w).alloc (.cells #[.string nm, .string so, .slice a L.length cap] 25)).alloc (.cells #[.string ⟨#[]⟩, .string ⟨#[]⟩, .slice none 0 0] 25)).alloc (.cells #[.string nm, .string so, .slice none 0 0] 25)
  have hb2 := allocOld (alloc_at (w.alloc (.cells #[.string nm, .string so, .slice a L.length cap] 25)) (.cells #[.string ⟨#[]⟩, .string ⟨#[]⟩, .slice none 0 0] 25) (n := w.heap.size + 1) (by simp)) (.cells #[.string nm, .string so, .slice none 0 0] 25)
  have hb3 := alloc_at ((w.alloc (.cells #[.string nm, .string so, .slice a L.length cap] 25)).alloc (.cells #[.string ⟨#[]⟩, .string ⟨#[]⟩, .slice none 0 0] 25)) (.cells #[.string nm, .string so, .slice none 0 0] 25) (n := w.heap.size + 1 + 1) (by simp)
  have hz0 : (((w.alloc (.cells #[.string nm, .string so, .slice a L.length cap] 25)).alloc (.cells #[.string ⟨#[]⟩, .string ⟨#[]⟩, .slice none 0 0] 25)).alloc (.cells #[.string nm, .string so, .slice none 0 0] 25)).heap.size = w.heap.size + 3 := by simp
  have HB2 := Lib.hid hb2
  have HB3 := Lib.hid hb3
  have HE0 := Lib.hid hx3
  have HZ0 := Lib.hid hz0
  clear ih hT hS hsz hszL
  clear hb2 hb3 hx3 hz0
  go_enter Tryz.func121, Tryz.ntmps121
  go_wp2_with fail
  generalize (((w.alloc (.cells #[.string nm, .string so, .slice a L.length cap] 25)).alloc (.cells #[.string ⟨#[]⟩, .string ⟨#[]⟩, .slice none 0 0] 25)).alloc (.cells #[.string nm, .string so, .slice none 0 0] 25)) = W0 at *
  obtain ⟨n3, hn3⟩ : ∃ n3, w.heap.size + 1 + 1 = n3 := ⟨_, rfl⟩
  rw [hn3] at HB3 ⊢
  have HN3 := Lib.hid hn3
  clear hn3
  have HJ0 : Hid (CpJ 25 (w.heap.size + 3) W0 L (.slice none 0 0) [] (fun _ _ => False) 0) := Lib.hid ⟨rfl, ⟨rfl, .inl ⟨rfl, rfl⟩⟩, fun i hi => absurd hi (Nat.not_lt_zero _), fun i j hi => absurd hi (Nat.not_lt_zero _), fun i i' j hi => absurd hi (Nat.not_lt_zero _)⟩
  have HSW0 : Hid (w.heap.size + 3 ≤ W0.heap.size) := Lib.hid (by rw [HZ0.out]; exact Nat.le_refl _)
  clear HZ0
  go_loopg [14] L.length (fun gk iv wr => ∃ (k : Nat) (lv : Value) (us : List Value) (Bk : Nat → Nat → Prop), iv = .int .i64 (k : Int) ∧ gk = L.length - k ∧ k ≤ L.length ∧ Hid (CpJ 25 (w.heap.size + 3) wr L lv us Bk k) ∧ Hid (wr.heap[w.heap.size + 1]? = some (.cells #[.string ⟨#[]⟩, .string ⟨#[]⟩, .slice none 0 0] 25 (0, 0))) ∧ Hid (wr.heap[n3]? = some (.cells #[.string nm, .string so, lv] 25 (0, 0))) ∧ Hid (Ext w wr) ∧ Hid (w.heap.size + 3 ≤ wr.heap.size))
  case atStart => exact ⟨0, _, _, _, rfl, rfl, Nat.zero_le _, HJ0, HB2, HB3, HE0, HSW0⟩
  case round =>
    clear HJ0 HB2 HB3 HE0 HSW0
    obtain ⟨k, lv, us, Bk, rfl, rfl, hk, HJ, HB2, HB3, HE, HSZ⟩ := hrel
    obtain ⟨la, lc, hlv⟩ := own_shape HJ.out.own
    subst hlv
    by_cases hlt : k < L.length
    · obtain ⟨g, off, hga, _, hat⟩ := (HTL.out.ext HE.out).at_ (by omega)
      subst hga
      obtain ⟨xa, xc, q0, q1, q2, hkid⟩ := hat k hlt
      rw [← Nat.add_assoc] at q1 q2
      have z0 : (0 : Int) ≤ (k : Int) := by omega
      have z1 : (k : Int) < (L.length : Int) := by omega
      have z2 : decide ((k : Int) < (L.length : Int)) = true := decide_eq_true z1
      have z2' : decide (k < L.length) = true := decide_eq_true hlt
      have HIX := Lib.hid (fun W (hW : Ext (wr.alloc (.cells #[.string (tg L k).name, .string (tg L k).sort, .slice xa (tg L k).kids.length xc] 25)) W) => HIH.out (tg L k) (tg_mem L k hlt) _ S W ⟨xa, xc, rfl, (hkid.ext ((Upd.refl (fun _ => False) wr).alloc _)).ext hW⟩ (fun j hj => Nat.lt_of_lt_of_le (HSS.out j hj) (Nat.le_trans HE.out.size (Nat.le_trans ((Upd.refl (fun _ => False) wr).alloc (.cells #[.string (tg L k).name, .string (tg L k).sort, .slice xa (tg L k).kids.length xc] 25)).size hW.size))) (by have h1 := HSL.out; have h2 := sizes_take L k hlt; have h3 := sizes_take_le L (k + 1); omega))
      dsimp only [tV] at HIX
      obtain ⟨x, hx⟩ : ∃ x, tg L k = x := ⟨_, rfl⟩
      have HX := Lib.hid hx
      rw [hx] at q0 q1 q2 HIX
      have hQ := (Upd.refl (fun _ => False) wr).alloc (.cells #[.string x.name, .string x.sort, .slice xa x.kids.length xc] 25)
      have hB5 := alloc0 wr (.cells #[.string x.name, .string x.sort, .slice xa x.kids.length xc] 25)
      have b0 := cellRow hB5 0 (.string x.name) rfl
      have b1 := cellRow hB5 1 (.string x.sort) rfl
      have b2 := cellRow hB5 2 (.slice xa x.kids.length xc) rfl
      have hB3q := allocOld HB3.out (.cells #[.string x.name, .string x.sort, .slice xa x.kids.length xc] 25)
      have c2 := cellRow hB3q 2 (.slice la k lc) rfl
      have HBQ := Lib.hid hB3q
      have HQ := Lib.hid hQ
      have HB2Q := Lib.hid (allocOld HB2.out (.cells #[.string x.name, .string x.sort, .slice xa x.kids.length xc] 25))
      have HOQ := Lib.hid (HJ.out.own.alloc (.cells #[.string x.name, .string x.sort, .slice xa x.kids.length xc] 25))
      have HRN : Hid (¬ (Value.slice la k lc).ownBlock = some n3) := Lib.hid (fun e => by have h1 := (HJ.out.own.lt n3 e).1; have := HN3.out; omega)
      have HK : Hid (k ≤ 100000) := Lib.hid (by omega)
      obtain ⟨iT, hi, hz0, hz1, hz2⟩ := info_parts infoT
      clear hat hkid hx hQ hB5 hB3q
      go_wp2_with fail
      generalize wr.alloc (.cells #[.string x.name, .string x.sort, .slice xa x.kids.length xc] 25) = wq at *
      have HWQ : Hid (Ext wq wq) := Lib.hid (Upd.refl _ _)
      have HSQ : Hid (w.heap.size + 3 ≤ wq.heap.size) := Lib.hid (Nat.le_trans HSZ.out HQ.out.size)
      clear q0 q1 q2
      go_region_law (first
  | (refine step_append_at _ (.tmp 19) (.tmp 22) 23 rfl (w.heap.size + 3) 25 iT (.agg #[.string ⟨#[]⟩, .string ⟨#[]⟩, .slice none 0 0]) 3 56 Tryz.underlying23 hi hz0 hz1 hz2 rfl (by decide) _ _ _ rfl HOW5.out _ 1 1 [.string x.name, .string x.sort, .slice ya x.kids.length yc] rfl rfl HNEW.out HONE.out HLM.out.1 HLM.out.2.1 HLM.out.2.2 ?_; intro v7 w7 hG7; obtain ⟨a7, c7, hv7⟩ := own_shape hG7.own; subst hv7; have hB7 := hG7.upd.heap (allocOld HB5.out (.cells #[.string x.name, .string x.sort, .slice ya x.kids.length yc] 25)) HRN.out; have f7 := fun i => frozenRow hB7 i; have c2 := cellRow hB7 2 (.slice la k lc) rfl; have HB7 := Lib.hid hB7; have HG7 := Lib.hid hG7; clear hG7 hB7)
  | (go_simp; refine (HIX.out wq.drew HWQ.out.drew).mono ?_; rintro e w5 ⟨r, Bx, rfl, hT5, hb5, hw5⟩; obtain ⟨ya, yc, hry⟩ := TlO.shape hT5; subst hry; have HW5 : Hid (Ext wq w5) := Lib.hid (((Upd.refl (fun _ => False) wq).drewN' 1).trans hw5); have HT5 := Lib.hid hT5; have HBX5 : Hid (∀ j, Bx j → wq.heap.size ≤ j ∧ j < w5.heap.size) := Lib.hid hb5; have HB5 := Lib.hid (HW5.out.heap HBQ.out (fun h => h)); have HOW5 : Hid ((w5.alloc (.cells #[.string x.name, .string x.sort, .slice ya x.kids.length yc] 25)).ownsRow (w.heap.size + 3) 25 3 (.slice la k lc) k (tCells (L.take k) us)) := Lib.hid ((own_kept HOQ.out HW5.out (fun _ _ h => h)).alloc _); have HNEW : Hid (∀ (j : Nat) (u : Value), [Value.string x.name, .string x.sort, .slice ya x.kids.length yc][j]? = some u → (w5.alloc (.cells #[.string x.name, .string x.sort, .slice ya x.kids.length yc] 25)).cell? ((⟨w5.heap.size, 0, none⟩ : Addr).add j) = some u) := Lib.hid (new3 w5 _ _ _ 25); have HONE : Hid (∀ u ∈ [Value.string x.name, .string x.sort, .slice ya x.kids.length yc], u.oneCell' = true) := Lib.hid (fun u hu => by simp at hu; rcases hu with h | h | h <;> (subst h; rfl)); have HLM : Hid (k + 1 ≤ maxLen ∧ (k + 1) * 56 ≤ 140737488355328 ∧ w.heap.size + 3 ≤ (w5.alloc (.cells #[.string x.name, .string x.sort, .slice ya x.kids.length yc] 25)).heap.size) := Lib.hid ⟨by unfold maxLen; have := HK.out; omega, by have := HK.out; omega, by have h1 := HW5.out.size; have h2 := HSQ.out; simp; omega⟩; have c5 := HW5.out.cell c2 (fun h => h); have c6 := ((Upd.refl (fun _ => False) w5).alloc (.cells #[.string x.name, .string x.sort, .slice ya x.kids.length yc] 25)).cell c5 (fun h => h); clear hT5 hb5 hw5))
      all_goals
        go_wp2_with fail
        have HS8 := Lib.hid ((Upd.refl (fun j => j = n3) w7).setCell (p := ⟨n3, 2, none⟩) (.inl rfl) (.slice a7 (k + 1) c7))
        have HU8 : Hid (Upd (fun j => (Value.slice la k lc).ownBlock = some j ∨ j = n3) wq (w7.setCell ⟨n3, 2, none⟩ (.slice a7 (k + 1) c7))) := Lib.hid (((((HW5.out.alloc (.cells #[.string x.name, .string x.sort, .slice ya x.kids.length yc] 25)).mono (fun _ _ x => x.elim)).trans (HG7.out.upd.mono (fun _ _ e => .inl e)))).trans (HS8.out.mono (fun _ _ e => .inr e)))
        have HJ8 := Lib.hid (HJ.out.grow hlt HX.out (by have := HN3.out; omega) HSZ.out HQ.out HW5.out HT5.out HBX5.out ((Upd.refl (fun _ => False) w5).alloc (.cells #[.string x.name, .string x.sort, .slice ya x.kids.length yc] 25)) HG7.out HS8.out)
        have HE8 : Hid (Ext w (w7.setCell ⟨n3, 2, none⟩ (.slice a7 (k + 1) c7))) := Lib.hid ((HE.out.trans HQ.out).trans' HU8.out (fun j hj e => by
          rcases e with e | e
          · have h1 := (HJ.out.own.lt j e).1; omega
          · have := HN3.out; omega))
        have HB28 := Lib.hid (HU8.out.heap HB2Q.out (fun e => by
          rcases e with e | e
          · have h1 := (HJ.out.own.lt _ e).1; omega
          · have := HN3.out; omega))
        have hb38 := setBlock HB7.out 2 (.slice a7 (k + 1) c7)
        have HB38 : Hid ((w7.setCell ⟨n3, 2, none⟩ (.slice a7 (k + 1) c7)).heap[n3]? = some (.cells #[.string nm, .string so, .slice a7 (k + 1) c7] 25 (0, 0))) := Lib.hid (by simpa using hb38)
        have HS9 : Hid (w.heap.size + 3 ≤ (w7.setCell ⟨n3, 2, none⟩ (.slice a7 (k + 1) c7)).heap.size) := Lib.hid (Nat.le_trans HSQ.out HU8.out.size)
        clear hb38 c2 f7
        go_roundg (L.length - (k + 1))
        case measure => omega
        case rel => exact ⟨k + 1, _, _, _, by go_num, rfl, by omega, HJ8, HB28, HB38, HE8, HS9⟩
    · obtain rfl : k = L.length := by omega
      have z2 : decide ((L.length : Int) < (L.length : Int)) = false := decide_eq_false (by omega)
      have c0 := cellRow HB3.out 0 (.string nm) rfl
      have c1 := cellRow HB3.out 1 (.string so) rfl
      have c2 := cellRow HB3.out 2 (.slice la L.length lc) rfl
      have f2 := fun i => frozenRow HB2.out i
      have d0 := cellRow HB2.out 0 (.string ⟨#[]⟩) rfl
      have d1 := cellRow HB2.out 1 (.string ⟨#[]⟩) rfl
      have d2 := cellRow HB2.out 2 (.slice none 0 0) rfl
      go_wp2_with fail
      have hr := st3_heap HB2.out (.string nm) (.string so) (.slice la L.length lc)
      have hu := st3_upd' wr (w.heap.size + 1) (.string nm) (.string so) (.slice la L.length lc)
      have e0 := cellRow hr 0 _ rfl
      have e1 := cellRow hr 1 _ rfl
      have e2 := cellRow hr 2 _ rfl
      refine bodyPost_ret (v := .agg #[.string nm, .string so, .slice la L.length lc]) (by simp [results, Tryz.results61, go_sem, e0, e1, e2]) rfl ⟨.slice la L.length lc, _, rfl, HJ.out.fin.kept hu (fun j hj e => by have h1 := hj.1; omega), fun j hj => ⟨by have h1 := hj.1; omega, Nat.lt_of_lt_of_le hj.2 hu.size⟩, HE.out.trans' hu (fun j hj e => by omega)⟩

end Go.Proofs.YtiimccogojkldaaGreatDoor

/- same of the rewrite package. -/
namespace Go.Proofs.YtiimccogojkldaaGreatDoor
open Go.RowKit Go.Hw Go
set_option linter.unusedVariables false
set_option linter.unusedSimpArgs false

open Tm
theorem tg_ext {L M : List Tm} (hl : L.length = M.length) (h : ∀ j, j < L.length → tg L j = tg M j) : L = M := by
  refine List.ext_getElem hl (fun i h1 h2 => ?_)
  have := h i h1
  unfold tg at this
  rw [List.getD_eq_getElem?_getD, List.getD_eq_getElem?_getD, List.getElem?_eq_getElem h1, List.getElem?_eq_getElem h2] at this
  exact this
set_option maxRecDepth 100000 in
set_option maxHeartbeats 2000000 in
theorem eqf_x (L M : List Tm) (v v' : Value) (S T : Nat → Prop) (w : World) (hR : TlR S w L v) (hR' : TlR T w M v') (hl : L.length ≤ 1000000)
    (hf : ∀ t ∈ L, ∀ u v1 v2 W, Ext w W → TmR S W t v1 → TmR T W u v2 → Calls Tryz.prog 143 #[v1, v2] W fun e W' => e = .returned (.bool (decide (t = u))) ∧ Ext W W') :
    Calls Tryz.prog 161 #[v, v', .func (.func 143) #[] #[]] w fun e w' => e = .returned (.bool (decide (L = M))) ∧ Ext w w' := by
  obtain ⟨aa, ca, rfl⟩ := hR.shape
  obtain ⟨ab, cb, rfl⟩ := hR'.shape
  have HTL := Lib.hid (And.intro hR hR')
  have HF := Lib.hid hf
  have HL := Lib.hid hl
  clear hR hR' hf hl
  by_cases hlen : L.length = M.length
  · have hz1 : ((L.length : Int) != (M.length : Int)) = false := by simp [hlen]
    have H3 := Lib.hid hlen
    clear hlen
    go_enter Tryz.func161, Tryz.ntmps161
    go_wp2_with fail
    clear hz1
    go_loopg [17] L.length (fun gk iv wr => ∃ k : Nat, iv = .int .i64 (k : Int) ∧ gk = L.length - k ∧ k ≤ L.length ∧ Hid (∀ j, j < k → tg L j = tg M j) ∧ Hid (Ext w wr))
    case atStart => exact ⟨0, rfl, rfl, Nat.zero_le _, Lib.hid (fun j h => absurd h (Nat.not_lt_zero _)), Lib.hid (Upd.refl _ _)⟩
    case round =>
      obtain ⟨k, rfl, rfl, hk, HC, HE⟩ := hrel
      by_cases hlt : k < L.length
      · have hltM : k < M.length := by have := H3.out; omega
        obtain ⟨g, off, hga, _, hat⟩ := (HTL.out.1.ext HE.out).at_ (by omega)
        obtain ⟨g', off', hga', _, hat'⟩ := (HTL.out.2.ext HE.out).at_ (by omega)
        subst hga
        subst hga'
        obtain ⟨xa, xc, q0, q1, q2, hkid⟩ := hat k hlt
        obtain ⟨ya, yc, p0, p1, p2, hkid'⟩ := hat' k hltM
        have z0 : (0 : Int) ≤ (k : Int) := by omega
        have z1 : (k : Int) < (L.length : Int) := by omega
        have z2 : decide ((k : Int) < (L.length : Int)) = true := decide_eq_true z1
        have z2' : decide (k < L.length) = true := decide_eq_true hlt
        have z3 : (k : Int) < (M.length : Int) := by omega
        have HIX := Lib.hid (fun W (hW : Ext wr W) => HF.out (tg L k) (tg_mem L k hlt) (tg M k) _ _ W (HE.out.trans hW) ⟨xa, xc, rfl, hkid.ext hW⟩ ⟨ya, yc, rfl, hkid'.ext hW⟩)
        have HNX : Hid (tg L k = tg M k → ∀ j, j < k + 1 → tg L j = tg M j) := Lib.hid (fun h j hj => by
          rcases Nat.lt_succ_iff_lt_or_eq.1 hj with h5 | h5
          · exact HC.out j h5
          · rw [h5]; exact h)
        have HNE : Hid (tg L k ≠ tg M k → decide (L = M) = false) := Lib.hid (fun h => decide_eq_false (fun e => h (by rw [e])))
        dsimp only [tV] at HIX
        clear hat hat' hkid hkid'
        obtain ⟨x, hx⟩ : ∃ x, tg L k = x := ⟨_, rfl⟩
        obtain ⟨y, hy⟩ : ∃ y, tg M k = y := ⟨_, rfl⟩
        rw [hx] at q0 q1 q2 HIX HNX HNE
        rw [hy] at p0 p1 p2 HIX HNX HNE
        clear hx hy HC
        rw [← Nat.add_assoc] at q1 q2 p1 p2
        have hA := (Upd.refl (fun _ => False) wr).alloc (.cells #[.string x.name, .string x.sort, .slice xa x.kids.length xc] 25)
        have p0 := hA.cell p0 (fun h => h)
        have p1 := hA.cell p1 (fun h => h)
        have p2 := hA.cell p2 (fun h => h)
        have HZ := Lib.hid (hA.alloc (.cells #[.string y.name, .string y.sort, .slice ya y.kids.length yc] 25))
        have HA := Lib.hid (allocOld (alloc0 wr (.cells #[.string x.name, .string x.sort, .slice xa x.kids.length xc] 25)) (.cells #[.string y.name, .string y.sort, .slice ya y.kids.length yc] 25))
        have HB := Lib.hid (alloc_at (wr.alloc (.cells #[.string x.name, .string x.sort, .slice xa x.kids.length xc] 25)) (.cells #[.string y.name, .string y.sort, .slice ya y.kids.length yc] 25) (n := wr.heap.size + 1) (by simp))
        have a0 := cellRow HA.out 0 (.string x.name) rfl
        have a1 := cellRow HA.out 1 (.string x.sort) rfl
        have a2 := cellRow HA.out 2 (.slice xa x.kids.length xc) rfl
        have b0 := cellRow HB.out 0 (.string y.name) rfl
        have b1 := cellRow HB.out 1 (.string y.sort) rfl
        have b2 := cellRow HB.out 2 (.slice ya y.kids.length yc) rfl
        clear hA HA HB
        go_wp2_with fail
        refine (HIX.out _ HZ.out).mono ?_
        rintro e w8 ⟨rfl, hw8⟩
        have HE8 := Lib.hid (HE.out.trans (HZ.out.trans hw8))
        obtain ⟨b, hb⟩ : ∃ b, decide (x = y) = b := ⟨_, rfl⟩
        rw [hb]
        have HBB := Lib.hid hb
        clear hw8 hb HIX HZ q0 q1 q2 p0 p1 p2 a0 a1 a2 b0 b1 b2
        cases b
        · have HV := Lib.hid (HNE.out (of_decide_eq_false HBB.out))
          go_wp2_with fail
          go_ret
          rw [HV.out]
          exact ⟨rfl, HE8.out⟩
        · have HN := Lib.hid (HNX.out (of_decide_eq_true HBB.out))
          have hlL := HL.out
          go_wp2_with fail
          go_roundg (L.length - (k + 1))
          case measure => omega
          case rel => exact ⟨k + 1, by go_num, rfl, by omega, HN, HE8⟩
      · obtain rfl : k = L.length := by omega
        have z2 : decide ((L.length : Int) < (L.length : Int)) = false := decide_eq_false (by omega)
        have HV : Hid (decide (L = M) = true) := Lib.hid (decide_eq_true (tg_ext H3.out HC.out))
        clear HC
        go_wp2_with fail
        go_ret
        rw [HV.out]
        exact ⟨rfl, HE.out⟩
  · have hz1 : ((L.length : Int) != (M.length : Int)) = true := by simp; exact fun e => hlen (Int.ofNat.inj e)
    have HV : Hid (decide (L = M) = false) := Lib.hid (decide_eq_false (fun e => hlen (by rw [e])))
    clear hlen
    go_enter Tryz.func161, Tryz.ntmps161
    go_wp2_with fail
    go_ret
    rw [HV.out]
    exact ⟨rfl, Upd.refl _ _⟩
set_option maxRecDepth 100000 in
set_option maxHeartbeats 2000000 in
theorem rsame_x : ∀ (t u : Tm) (v v' : Value) (S T : Nat → Prop) (w : World), TmR S w t v → TmR T w u v' → t.size ≤ 1000000 →
    Calls Tryz.prog 143 #[v, v'] w fun e w' => e = .returned (.bool (decide (t = u))) ∧ Ext w w' := by
  refine Tm.ind (fun n s L ih => ?_)
  intro u v v' S T w hR hR' hsz
  obtain ⟨m, r, M⟩ := u
  obtain ⟨aa, ca, rfl, hT⟩ := hR
  obtain ⟨ab, cb, rfl, hT'⟩ := hR'
  dsimp only [tV, Tm.name, Tm.sort, Tm.kids] at hT hT' ⊢
  have hlL : L.length ≤ 1000000 := by have h1 := length_le_sizes L; have h2 := hsz; rw [size_eq] at h2; exact Nat.le_trans h1 (Nat.le_of_succ_le h2)
  have HC := Lib.hid (fun W (hW : Ext w W) => eqf_x L M _ _ S T W (hT.ext hW) (hT'.ext hW) hlL (fun t ht u v1 v2 W' hW' h1 h2 => ih t ht u v1 v2 S T W' h1 h2 (by have h1 := size_mem ht; have h2 := hsz; rw [size_eq] at h2; exact Nat.le_trans h1 (Nat.le_of_succ_le h2))))
  have HZ := Lib.hid (((Upd.refl (fun _ => False) w).alloc (.cells #[.string n, .string s, .slice aa L.length ca] 25)).alloc (.cells #[.string m, .string r, .slice ab M.length cb] 25))
  have HA := Lib.hid (allocOld (alloc0 w (.cells #[.string n, .string s, .slice aa L.length ca] 25)) (.cells #[.string m, .string r, .slice ab M.length cb] 25))
  have HB := Lib.hid (alloc_at (w.alloc (.cells #[.string n, .string s, .slice aa L.length ca] 25)) (.cells #[.string m, .string r, .slice ab M.length cb] 25) (n := w.heap.size + 1) (by simp))
  have a0 := cellRow HA.out 0 (.string n) rfl
  have a1 := cellRow HA.out 1 (.string s) rfl
  have a2 := cellRow HA.out 2 (.slice aa L.length ca) rfl
  have b0 := cellRow HB.out 0 (.string m) rfl
  have b1 := cellRow HB.out 1 (.string r) rfl
  have b2 := cellRow HB.out 2 (.slice ab M.length cb) rfl
  have hz : decide (Tm.mk n s L = .mk m r M) = (decide (n = m) && (decide (s = r) && decide (L = M))) := by
    rw [Bool.eq_iff_iff]; simp
  rw [hz]
  clear hz hT hT' ih hsz
  by_cases h1 : n = m
  · have t1 : (n.toList == m.toList) = true := by rw [h1]; simp
    have d1 : decide (n = m) = true := decide_eq_true h1
    rw [d1]
    clear h1 d1
    by_cases h2 : s = r
    · have t2 : (s.toList == r.toList) = true := by rw [h2]; simp
      have d2 : decide (s = r) = true := decide_eq_true h2
      rw [d2]
      clear h2 d2
      generalize decide (L = M) = Z at *
      go_enter Tryz.func143, Tryz.ntmps143
      go_wp2_with fail
      refine (HC.out _ HZ.out).mono ?_
      rintro e w4 ⟨rfl, hw4⟩
      have H4 := Lib.hid (HZ.out.trans hw4)
      clear hw4 a0 a1 a2 b0 b1 b2
      go_wp2_with fail
      go_ret
      exact ⟨rfl, H4.out⟩
    · have t2 : (s.toList == r.toList) = false := by rw [beq_eq_false_iff_ne]; exact fun e => h2 (ba_list (by rw [Lib.toList_data, Lib.toList_data] at e; exact e))
      have d2 : decide (s = r) = false := decide_eq_false h2
      rw [d2]
      clear h2 d2
      go_enter Tryz.func143, Tryz.ntmps143
      go_wp2_with fail
      go_ret
      exact ⟨rfl, HZ.out⟩
  · have t1 : (n.toList == m.toList) = false := by rw [beq_eq_false_iff_ne]; exact fun e => h1 (ba_list (by rw [Lib.toList_data, Lib.toList_data] at e; exact e))
    have d1 : decide (n = m) = false := decide_eq_false h1
    rw [d1]
    clear h1 d1
    go_enter Tryz.func143, Tryz.ntmps143
    go_wp2_with fail
    go_ret
    exact ⟨rfl, HZ.out⟩

end Go.Proofs.YtiimccogojkldaaGreatDoor

/- Rewriting, pure: matching, filling, the redex of a step. -/
namespace Go.Hw
open Tm
set_option linter.unusedVariables false
set_option linter.unusedSimpArgs false
/-- what stands for the variables -/
abbrev Sb := By → Option Tm
def Sb.put (σ : Sb) (n : By) (t : Tm) : Sb := fun m => if m = n then some t else σ m
def Sb.le (σ τ : Sb) : Prop := ∀ n x, σ n = some x → τ n = some x
theorem Sb.le.trans {σ τ ρ : Sb} (h : σ.le τ) (h2 : τ.le ρ) : σ.le ρ := fun n x e => h2 n x (h n x e)
mutual
def mtch : Tm → Tm → Sb → Option Sb
  | .mk n s L, t, σ =>
    if s = nul then (if t.sort = nul ∧ t.name = n ∧ t.kids.length = L.length then mtchL L t.kids σ else none)
    else match σ n with
      | some x => if x = t then some σ else none
      | none => if t.sort ≠ nul ∧ t.sort ≠ s then none else some (σ.put n t)
def mtchL : List Tm → List Tm → Sb → Option Sb
  | [], _, σ => some σ
  | _ :: _, [], _ => none
  | a :: L, b :: M, σ => match mtch a b σ with
    | none => none
    | some τ => mtchL L M τ
end
theorem mtch_op {n : By} {L : List Tm} {t : Tm} {σ : Sb} (h : t.sort = nul ∧ t.name = n ∧ t.kids.length = L.length) : mtch (.mk n nul L) t σ = mtchL L t.kids σ := by
  unfold mtch
  rw [if_pos rfl, if_pos h]
theorem mtch_no {n : By} {L : List Tm} {t : Tm} {σ : Sb} (h : ¬ (t.sort = nul ∧ t.name = n ∧ t.kids.length = L.length)) : mtch (.mk n nul L) t σ = none := by
  unfold mtch
  rw [if_pos rfl, if_neg h]
theorem mtch_some {n s : By} {L : List Tm} {t x : Tm} {σ : Sb} (hs : s ≠ nul) (h : σ n = some x) : mtch (.mk n s L) t σ = if x = t then some σ else none := by
  unfold mtch
  rw [if_neg hs, h]
theorem mtch_new {n s : By} {L : List Tm} {t : Tm} {σ : Sb} (hs : s ≠ nul) (h : σ n = none) : mtch (.mk n s L) t σ = if t.sort ≠ nul ∧ t.sort ≠ s then none else some (σ.put n t) := by
  unfold mtch
  rw [if_neg hs, h]
theorem mtchL_at {L M : List Tm} {σ : Sb} {k : Nat} (hL : k < L.length) (hM : k < M.length) :
    mtchL (L.drop k) (M.drop k) σ = match mtch (tg L k) (tg M k) σ with | none => none | some τ => mtchL (L.drop (k + 1)) (M.drop (k + 1)) τ := by
  have e1 : L.drop k = tg L k :: L.drop (k + 1) := by
    rw [List.drop_eq_getElem_cons hL]
    unfold tg
    rw [List.getD_eq_getElem?_getD, List.getElem?_eq_getElem hL]
    rfl
  have e2 : M.drop k = tg M k :: M.drop (k + 1) := by
    rw [List.drop_eq_getElem_cons hM]
    unfold tg
    rw [List.getD_eq_getElem?_getD, List.getElem?_eq_getElem hM]
    rfl
  rw [e1, e2]
  rfl
/-- a term whose variables are replaced -/
def filT (σ : Sb) (t : Tm) : Tm := sbT (fun n _ => (σ n).getD default) t
theorem filT_op (σ : Sb) (n : By) (L : List Tm) : filT σ (.mk n nul L) = .mk n nul (L.map (filT σ)) := sbT_op _ rfl
theorem filT_var (σ : Sb) {n s : By} {L : List Tm} (h : s ≠ nul) : filT σ (.mk n s L) = (σ n).getD default := by
  unfold filT sbT
  rw [if_neg h]
theorem mtch_ok : ∀ (p t : Tm) (σ τ : Sb), mtch p t σ = some τ → σ.le τ ∧ ∀ ρ : Sb, τ.le ρ → filT ρ p = t := by
  refine Tm.ind (fun n s L ih => ?_)
  intro t σ τ h
  by_cases hs : s = nul
  · subst hs
    by_cases hc : t.sort = nul ∧ t.name = n ∧ t.kids.length = L.length
    · rw [mtch_op hc] at h
      have key : ∀ (L M : List Tm), (∀ x ∈ L, ∀ (t : Tm) (σ τ : Sb), mtch x t σ = some τ → σ.le τ ∧ ∀ ρ : Sb, τ.le ρ → filT ρ x = t) → M.length = L.length → ∀ σ τ, mtchL L M σ = some τ → σ.le τ ∧ ∀ ρ : Sb, τ.le ρ → L.map (filT ρ) = M := by
        intro L
        induction L with
        | nil =>
          intro M _ hl σ τ h
          have hM : M = [] := List.eq_nil_of_length_eq_zero hl
          subst hM
          unfold mtchL at h
          injection h with h
          subst h
          exact ⟨fun _ _ e => e, fun _ _ => rfl⟩
        | cons a L ihL =>
          intro M hx hl σ τ h
          match M, hl with
          | b :: M, hl =>
            unfold mtchL at h
            cases hm : mtch a b σ with
            | none => rw [hm] at h; cases h
            | some υ =>
              rw [hm] at h
              obtain ⟨h1, h2⟩ := hx a (List.mem_cons_self ..) b σ υ hm
              obtain ⟨h3, h4⟩ := ihL M (fun x hx' => hx x (List.mem_cons_of_mem _ hx')) (by simpa using hl) υ τ h
              exact ⟨h1.trans h3, fun ρ hρ => by rw [List.map_cons, h2 ρ (h3.trans hρ), h4 ρ hρ]⟩
      obtain ⟨h1, h2⟩ := key L t.kids ih hc.2.2 σ τ h
      refine ⟨h1, fun ρ hρ => ?_⟩
      rw [filT_op, h2 ρ hρ, ← hc.2.1, ← hc.1]
      exact eta t
    · rw [mtch_no hc] at h
      cases h
  · cases hx : σ n with
    | some x =>
      rw [mtch_some hs hx] at h
      by_cases e : x = t
      · rw [if_pos e] at h
        injection h with h
        subst h
        exact ⟨fun _ _ e => e, fun ρ hρ => by rw [filT_var ρ hs, hρ n x hx, Option.getD_some, e]⟩
      · rw [if_neg e] at h
        cases h
    | none =>
      rw [mtch_new hs hx] at h
      by_cases e : t.sort ≠ nul ∧ t.sort ≠ s
      · rw [if_pos e] at h
        cases h
      · rw [if_neg e] at h
        injection h with h
        subst h
        refine ⟨fun m x hm => ?_, fun ρ hρ => ?_⟩
        · show (if m = n then some t else σ m) = some x
          by_cases em : m = n
          · subst em; rw [hx] at hm; cases hm
          · rw [if_neg em]; exact hm
        · rw [filT_var ρ hs, hρ n t (show (if n = n then some t else σ n) = some t from if_pos rfl), Option.getD_some]
def sb0 : Sb := fun _ => none
/-- what a rule makes of a term -/
def aplF (r : Rl) (t : Tm) : Option Tm := (mtch r.1 t sb0).map fun σ => filT σ r.2
theorem aplF_ok {r : Rl} {t u : Tm} (h : aplF r t = some u) : ∃ σ : Sb, filT σ r.1 = t ∧ filT σ r.2 = u := by
  unfold aplF at h
  cases hm : mtch r.1 t sb0 with
  | none => rw [hm] at h; cases h
  | some σ =>
    rw [hm] at h
    injection h with h
    exact ⟨σ, (mtch_ok _ _ _ _ hm).2 σ (fun _ _ e => e), h⟩
/-- the first rule that fits -/
def fstR : Nat → List Rl → Tm → Option (Nat × Tm)
  | _, [], _ => none
  | i, r :: l, t => match aplF r t with
    | some u => some (i, u)
    | none => fstR (i + 1) l t
mutual
def fndT (l : List Rl) : Tm → Option (Nat × List Nat × Tm)
  | .mk n s L => match fndL l 0 L with
    | some x => some x
    | none => (fstR 0 l (.mk n s L)).map fun x => (x.1, [], x.2)
def fndL (l : List Rl) : Nat → List Tm → Option (Nat × List Nat × Tm)
  | _, [] => none
  | i, a :: L => match fndT l a with
    | some x => some (x.1, i :: x.2.1, x.2.2)
    | none => fndL l (i + 1) L
end
theorem fndT_eq (l : List Rl) (n s : By) (L : List Tm) : fndT l (.mk n s L) = match fndL l 0 L with | some x => some x | none => (fstR 0 l (.mk n s L)).map fun x => (x.1, [], x.2) := by
  conv => lhs; unfold fndT
theorem fndL_at (l : List Rl) (L : List Tm) (k : Nat) (h : k < L.length) : fndL l k (L.drop k) = match fndT l (tg L k) with | some x => some (x.1, k :: x.2.1, x.2.2) | none => fndL l (k + 1) (L.drop (k + 1)) := by
  have e1 : L.drop k = tg L k :: L.drop (k + 1) := by
    rw [List.drop_eq_getElem_cons h]
    unfold tg
    rw [List.getD_eq_getElem?_getD, List.getElem?_eq_getElem h]
    rfl
  rw [e1]
  conv => lhs; unfold fndL
theorem fstR_at (l : List Rl) (t : Tm) (k : Nat) (h : k < l.length) : fstR k (l.drop k) t = match aplF (rg l k) t with | some u => some (k, u) | none => fstR (k + 1) (l.drop (k + 1)) t := by
  have e1 : l.drop k = rg l k :: l.drop (k + 1) := by
    rw [List.drop_eq_getElem_cons h]
    unfold rg
    rw [List.getD_eq_getElem?_getD, List.getElem?_eq_getElem h]
    rfl
  rw [e1]
  conv => lhs; unfold fstR
theorem fstR_ok (l : List Rl) (t : Tm) : ∀ (m : List Rl) (k i : Nat) (u : Tm), m = l.drop k → k ≤ l.length → fstR k m t = some (i, u) → i < l.length ∧ aplF (rg l i) t = some u := by
  intro m
  induction m with
  | nil => intro k i u _ _ h; cases h
  | cons r m ih =>
    intro k i u hm hk h
    have hlt : k < l.length := by
      apply Nat.lt_of_not_le
      intro e
      rw [List.drop_eq_nil_of_le e] at hm
      cases hm
    rw [hm, fstR_at l t k hlt] at h
    cases ha : aplF (rg l k) t with
    | some y =>
      rw [ha] at h
      injection h with h
      injection h with h1 h2
      subst h1
      subst h2
      exact ⟨hlt, ha⟩
    | none =>
      rw [ha] at h
      have hm2 : m = l.drop (k + 1) := by
        have := congrArg List.tail hm
        simpa using this
      rw [← hm2] at h
      exact ih (k + 1) i u hm2 hlt h
theorem fndT_ok (l : List Rl) : ∀ (t : Tm) (i : Nat) (p : List Nat) (u : Tm), fndT l t = some (i, p, u) → okP t p ∧ i < l.length ∧ aplF (rg l i) (tmAt t p) = some u := by
  refine Tm.ind (fun n s L ih => ?_)
  intro i p u h
  rw [fndT_eq] at h
  have key : ∀ (N k : Nat), L.length - k ≤ N → k ≤ L.length → ∀ (i : Nat) (p : List Nat) (u : Tm), fndL l k (L.drop k) = some (i, p, u) → ∃ j q, p = j :: q ∧ j < L.length ∧ okP (tg L j) q ∧ i < l.length ∧ aplF (rg l i) (tmAt (tg L j) q) = some u := by
    intro N
    induction N with
    | zero =>
      intro k hN hk i p u h
      rw [List.drop_eq_nil_of_le (by omega)] at h
      unfold fndL at h
      cases h
    | succ N ihN =>
      intro k hN hk i p u h
      by_cases hlt : k < L.length
      · rw [fndL_at l L k hlt] at h
        cases hf : fndT l (tg L k) with
        | some x =>
          rw [hf] at h
          injection h with h
          obtain ⟨x1, x2, x3⟩ := x
          injection h with h1 h2
          injection h2 with h2 h3
          subst h1
          subst h3
          have hmem : tg L k ∈ L := by unfold tg; rw [List.getD_eq_getElem?_getD, List.getElem?_eq_getElem hlt]; exact List.getElem_mem hlt
          obtain ⟨g1, g2, g3⟩ := ih _ hmem _ _ _ hf
          exact ⟨k, x2, h2.symm, hlt, g1, g2, g3⟩
        | none =>
          rw [hf] at h
          exact ihN (k + 1) (by omega) hlt i p u h
      · rw [List.drop_eq_nil_of_le (by omega)] at h
        unfold fndL at h
        cases h
  cases hl : fndL l 0 L with
  | some x =>
    rw [hl] at h
    injection h with h
    subst h
    obtain ⟨j, q, hp, hj, g1, g2, g3⟩ := key L.length 0 (by omega) (Nat.zero_le _) i p u (by simpa using hl)
    subst hp
    exact ⟨⟨hj, g1⟩, g2, g3⟩
  | none =>
    rw [hl] at h
    cases hf : fstR 0 l (.mk n s L) with
    | none => rw [hf] at h; cases h
    | some x =>
      rw [hf] at h
      injection h with h
      injection h with h1 h2
      injection h2 with h2 h3
      subst h1
      subst h2
      subst h3
      obtain ⟨g1, g2⟩ := fstR_ok l _ l 0 x.1 x.2 rfl (Nat.zero_le _) hf
      exact ⟨trivial, g1, g2⟩
/-- a step of rules that descend goes down -/
theorem step_gt {ro : By → Nat} {l : List Rl} (hl : ∀ r ∈ l, gt ro r.1 r.2 = true) {t : Tm} (ht : NoP t) {i : Nat} {p : List Nat} {u : Tm} (h : fndT l t = some (i, p, u)) : gt ro t (putAt t p u) = true := by
  obtain ⟨h1, h2, h3⟩ := fndT_ok l t i p u h
  obtain ⟨σ, e1, e2⟩ := aplF_ok h3
  refine gt_context ro u (tmAt t p) p t ht (sub_of p t h1) ?_
  rw [← e1, ← e2]
  exact gt_subst ro _ _ _ _ (Nat.le_refl _) (hl _ (rg_mem h2))
end Go.Hw

/- Subterms at paths are well-formed, and known: pure. -/
namespace Go.Hw
open Tm
set_option linter.unusedVariables false
set_option linter.unusedSimpArgs false
theorem nodesD_up (k : Nat) : ∀ (t : Tm) (d : Nat), nodesD (d + k) t = (nodesD d t).map fun p => (p.1, p.2 + k) := by
  refine ind (fun n s L ih d => ?_)
  rw [nodesD_eq, nodesD_eq, nodesDs_flat, nodesDs_flat]
  simp only [kids, List.map_cons, List.map_flatMap]
  congr 1
  induction L with
  | nil => rfl
  | cons a L ihL =>
    simp only [List.flatMap_cons]
    rw [show d + k + 1 = d + 1 + k by omega, ih a (List.mem_cons_self ..) (d + 1)]
    rw [show d + 1 + k = d + k + 1 by omega, ihL (fun x hx => ih x (List.mem_cons_of_mem _ hx))]
theorem nodes_tmAt : ∀ (p : List Nat) (t : Tm) (d : Nat), okP t p → ∃ k, ∀ q ∈ nodesD d (tmAt t p), (q.1, q.2 + k) ∈ nodesD d t
  | [], t, d, _ => ⟨0, fun q hq => hq⟩
  | i :: p, t, d, h => by
    obtain ⟨k, hk⟩ := nodes_tmAt p (tg t.kids i) d h.2
    refine ⟨k + 1, fun q hq => ?_⟩
    have h1 := hk q hq
    have hm : tg t.kids i ∈ t.kids := tg_in h.1
    rw [nodesD_eq, nodesDs_flat]
    refine List.mem_cons_of_mem _ (List.mem_flatMap.2 ⟨_, hm, ?_⟩)
    rw [nodesD_up 1 _ d]
    exact List.mem_map.2 ⟨_, h1, rfl⟩
theorem sbts_tmAt : ∀ (p : List Nat) (t : Tm), okP t p → ∀ y ∈ sbts (tmAt t p), y ∈ sbts t
  | [], t, _ => fun y hy => hy
  | i :: p, t, h => fun y hy => mem_sbts_kid (tg_in h.1) (sbts_tmAt p _ h.2 y hy)
theorem size_tmAt : ∀ (p : List Nat) (t : Tm), okP t p → (tmAt t p).size ≤ t.size
  | [], t, _ => Nat.le_refl _
  | i :: p, t, h => by
    have h1 := size_tmAt p _ h.2
    have h2 := size_kid (tg_in h.1)
    show (tmAt (tg t.kids i) p).size ≤ _
    omega
theorem okN_less {nm : By → Bool} {x : Tm} {d k : Nat} (h : okN nm (x, d + k) = true) : okN nm (x, d) = true := by
  unfold okN at h ⊢
  rw [Bool.and_eq_true, decide_eq_true_eq] at h ⊢
  exact ⟨by have := h.1; simp only at this ⊢; omega, h.2⟩
theorem vl_sub {l m : List Tm} (h : ∀ x ∈ l, x ∈ m) : ∀ f ∈ vl l, f ∈ vl m := by
  intro f hf
  unfold vl at hf ⊢
  obtain ⟨x, hx, h2⟩ := List.mem_filterMap.1 hf
  exact List.mem_filterMap.2 ⟨x, h x hx, h2⟩
theorem wf_tmAt {nm : By → Bool} {t : Tm} {p : List Nat} (h : wf nm t = true) (hp : okP t p) : wf nm (tmAt t p) = true := by
  unfold wf at h ⊢
  rw [Bool.and_eq_true] at h ⊢
  obtain ⟨h1, h2⟩ := (formed_iff nm t).1 h.1
  refine ⟨(formed_iff nm _).2 ⟨Nat.le_trans (size_tmAt p t hp) h1, fun q hq => ?_⟩, ?_⟩
  · obtain ⟨k, hk⟩ := nodes_tmAt p t 1 hp
    exact okN_less (h2 _ (hk q hq))
  · rw [sortsT_iff] at h ⊢
    have hs := vl_sub (sbts_tmAt p t hp)
    exact fun f hf g hg e => h.2 f (hs f hf) g (hs g hg) e
theorem knows_tmAt {ops : List By} {t : Tm} {p : List Nat} (h : knowsP ops t = true) (hp : okP t p) : knowsP ops (tmAt t p) = true := by
  rw [knowsP_iff] at h ⊢
  intro s hs
  obtain ⟨x, hx, h1, h2⟩ := mem_opN.1 hs
  exact h s (mem_opN.2 ⟨x, sbts_tmAt p t hp x hx, h1, h2⟩)
end Go.Hw

/- What a rewriting leaves is known: pure. -/
namespace Go.Hw
open Tm
set_option linter.unusedVariables false
set_option linter.unusedSimpArgs false
/-- the variables of what is smaller stand in what is greater -/
theorem gt_vars (r : By → Nat) : ∀ (N : Nat) (s t : Tm), s.size + t.size ≤ N → gt r s t = true → ∀ y ∈ sbts t, y.sort ≠ nul → NoP t → y ∈ sbts s
  | 0, s, t, hN, _ => by have := size_pos s; omega
  | N + 1, s, t, hN, hg => by
    intro y hy hsy hp
    obtain ⟨hs, h⟩ := (gt_iff r s t).1 hg
    rcases h with ⟨k, hk, e⟩ | ⟨ht, hall, _⟩
    · have hz := size_kid hk
      rcases e with e | e
      · subst e
        exact mem_sbts_kid hk hy
      · exact mem_sbts_kid hk (gt_vars r N k t (by omega) e y hy hsy hp)
    · rw [sbts_eq, List.mem_cons] at hy
      rcases hy with e | hy
      · subst e
        exact absurd ht hsy
      · obtain ⟨k, hk, hy⟩ := List.mem_flatMap.1 hy
        have hz := size_kid hk
        exact gt_vars r N s k (by omega) (hall k hk) y hy hsy (hp.kid hk)
theorem fil_sub (σ : Sb) : ∀ l : Tm, NoP l → ∀ y ∈ sbts l, filT σ y ∈ sbts (filT σ l) := by
  refine Tm.ind (fun n s L ih => ?_)
  intro hp y hy
  by_cases hs : s = nul
  · subst hs
    rw [sbts_eq, List.mem_cons] at hy
    rcases hy with e | hy
    · subst e
      exact mem_sbts_self _
    · obtain ⟨k, hk, hy⟩ := List.mem_flatMap.1 hy
      rw [filT_op]
      exact mem_sbts_kid (t := .mk n nul (L.map (filT σ))) (List.mem_map_of_mem hk) (ih k hk (hp.kid hk) y hy)
  · have hk : L = [] := hp _ (mem_sbts_self _) hs
    subst hk
    rw [sbts_eq, List.mem_cons] at hy
    rcases hy with e | hy
    · subst e
      exact mem_sbts_self _
    · cases hy
theorem opN_fil (σ : Sb) : ∀ r : Tm, ∀ s ∈ opN (filT σ r), s ∈ opN r ∨ ∃ y ∈ sbts r, y.sort ≠ nul ∧ s ∈ opN (filT σ y) := by
  refine Tm.ind (fun n so L ih => ?_)
  intro s hs
  by_cases h : so = nul
  · subst h
    rw [filT_op, opN_mk, List.mem_append] at hs
    rw [opN_mk, List.mem_append]
    rcases hs with hs | hs
    · exact .inl (.inl hs)
    · obtain ⟨x, hx, hs⟩ := List.mem_flatMap.1 hs
      obtain ⟨k, hk, e⟩ := List.mem_map.1 hx
      subst e
      rcases ih k hk s hs with h1 | ⟨y, hy, h2, h3⟩
      · exact .inl (.inr (List.mem_flatMap.2 ⟨k, hk, h1⟩))
      · exact .inr ⟨y, mem_sbts_kid (t := .mk n nul L) hk hy, h2, h3⟩
  · exact .inr ⟨_, mem_sbts_self _, h, hs⟩
theorem sbts_trans {x y : Tm} : ∀ {t : Tm}, x ∈ sbts t → y ∈ sbts x → y ∈ sbts t := by
  refine fun {t} => Tm.ind (P := fun t => x ∈ sbts t → y ∈ sbts x → y ∈ sbts t) (fun n s L ih => ?_) t
  intro hx hy
  rw [sbts_eq, List.mem_cons] at hx
  rcases hx with e | hx
  · subst e
    exact hy
  · obtain ⟨k, hk, hx⟩ := List.mem_flatMap.1 hx
    exact mem_sbts_kid hk (ih k hk hx hy)
theorem opN_sub {t x : Tm} (hx : x ∈ sbts t) : ∀ s ∈ opN x, s ∈ opN t := by
  intro s hs
  rw [mem_opN] at hs ⊢
  obtain ⟨y, hy, h⟩ := hs
  exact ⟨y, sbts_trans hx hy, h⟩
theorem knows_fil {ops : List By} {ro : By → Nat} {l r : Tm} {σ : Sb} (hg : gt ro l r = true) (hl : NoP l) (hr : NoP r) (hk : knowsP ops r = true) (ht : knowsP ops (filT σ l) = true) : knowsP ops (filT σ r) = true := by
  rw [knowsP_iff] at hk ht ⊢
  intro s hs
  rcases opN_fil σ r s hs with h | ⟨y, hy, h2, h3⟩
  · exact hk s h
  · exact ht s (opN_sub (fil_sub σ l hl y (gt_vars ro _ l r (Nat.le_refl _) hg y hy h2 hr)) s h3)
theorem opN_putAt' (y : Tm) : ∀ (p : List Nat) (t : Tm), okP t p → ∀ s ∈ opN (putAt t p y), s ∈ opN t ∨ s ∈ opN y
  | [], t, _ => fun s hs => by
    have e : putAt t [] y = y := by cases t; rfl
    rw [e] at hs
    exact .inr hs
  | i :: p, t, h => fun s hs => by
    obtain ⟨nm, so, L⟩ := t
    have e : putAt (.mk nm so L) (i :: p) y = .mk nm so (L.set i (putAt (tg L i) p y)) := rfl
    rw [e, opN_mk, List.mem_append] at hs
    rw [opN_mk, List.mem_append]
    rcases hs with hs | hs
    · exact .inl (.inl hs)
    · obtain ⟨x, hx, hs⟩ := List.mem_flatMap.1 hs
      rcases List.mem_or_eq_of_mem_set hx with h1 | h1
      · exact .inl (.inr (List.mem_flatMap.2 ⟨x, h1, hs⟩))
      · subst h1
        rcases opN_putAt' y p (tg L i) h.2 s hs with h2 | h2
        · exact .inl (.inr (List.mem_flatMap.2 ⟨_, tg_in h.1, h2⟩))
        · exact .inr h2
/-- a step of known rules that descend leaves a known term -/
theorem step_knows {ops : List By} {ro : By → Nat} {l : List Rl} (hl : ∀ r ∈ l, gt ro r.1 r.2 = true) (hn : ∀ r ∈ l, NoP r.1 ∧ NoP r.2) (hk : ∀ r ∈ l, knowsP ops r.2 = true) {t : Tm} (ht : knowsP ops t = true) {i : Nat} {p : List Nat} {u : Tm} (h : fndT l t = some (i, p, u)) : knowsP ops (putAt t p u) = true := by
  obtain ⟨h1, h2, h3⟩ := fndT_ok l t i p u h
  obtain ⟨σ, e1, e2⟩ := aplF_ok h3
  have hm := rg_mem h2
  have hu : knowsP ops u = true := by
    rw [← e2]
    exact knows_fil (hl _ hm) (hn _ hm).1 (hn _ hm).2 (hk _ hm) (by rw [e1]; exact knows_tmAt ht h1)
  rw [knowsP_iff] at hu ht ⊢
  intro s hs
  rcases opN_putAt' u p t h1 s hs with h | h
  · exact ht s h
  · exact hu s h
end Go.Hw

/- match of the rewrite package. -/
namespace Go.Proofs.YtiimccogojkldaaGreatDoor
open Go.RowKit Go.Hw Go
set_option linter.unusedVariables false
set_option linter.unusedSimpArgs false

open Tm
/-- what stands for the variables, in memory -/
def BdR (S : Nat → Prop) (w : World) (b : Nat) (σ : Sb) : Prop := ∃ l : List (By × Value), MpR (fun s : By => Value.string s) w b l ∧ (∀ n, σ n = none → afind l n = none) ∧ ∀ n t, σ n = some t → ∃ v, afind l n = some v ∧ TmR S w t v ∧ t.size ≤ 100000
section
variable {S F : Nat → Prop} {w w' w1 w2 : World} {b : Nat} {σ : Sb}
theorem BdR.kept (h : BdR S w b σ) (hu : Upd F w w') (hb : ¬ F b) (hF : ∀ k, S k → ¬ F k) : BdR S w' b σ := by
  obtain ⟨l, h1, h2, h3⟩ := h
  exact ⟨l, h1.kept hu hb, h2, fun n t e => by
    obtain ⟨v, g1, g2, g3⟩ := h3 n t e
    exact ⟨v, g1, g2.kept hu hF, g3⟩⟩
theorem BdR.ext (h : BdR S w b σ) (hu : Ext w w') : BdR S w' b σ := h.kept hu (fun h => h) (fun _ _ h => h)
theorem BdR.made (S : Nat → Prop) (w : World) : BdR S (w.alloc (.map #[] 0)) w.heap.size sb0 := ⟨[], MpR.made _ w, fun _ _ => rfl, fun n t h => by cases h⟩
theorem BdR.put {l : List (By × Value)} {n : By} {t : Tm} {v : Value} (h : (∀ n, σ n = none → afind l n = none) ∧ ∀ n t, σ n = some t → ∃ v, afind l n = some v ∧ TmR S w t v ∧ t.size ≤ 100000)
    (h1 : Upd (fun k => k = b) w w1) (h2 : Upd (fun k => k = b) w1 w2) (hm : MpR (fun s : By => Value.string s) w2 b (aput l n v)) (hS : ¬ S b) (ht : TmR S w t v) (hs : t.size ≤ 100000) : BdR S w2 b (σ.put n t) := by
  have hu := h1.trans h2
  have hF : ∀ k, S k → ¬ k = b := fun k hk e => hS (e ▸ hk)
  refine ⟨_, hm, fun m hm => ?_, fun m x hx => ?_⟩
  · rw [afind_put]
    unfold Sb.put at hm
    by_cases e : m = n
    · rw [if_pos e] at hm; cases hm
    · rw [if_neg e] at hm ⊢; exact h.1 m hm
  · rw [afind_put]
    unfold Sb.put at hx
    by_cases e : m = n
    · rw [if_pos e] at hx ⊢
      injection hx with hx
      subst hx
      exact ⟨v, rfl, ht.kept hu hF, hs⟩
    · rw [if_neg e] at hx ⊢
      obtain ⟨v', g1, g2, g3⟩ := h.2 m x hx
      exact ⟨v', g1, g2.kept hu hF, g3⟩
end
theorem ln_ne {a b : Nat} (h : ¬ a = b) : ((a : Int) != (b : Int)) = true := by simp; exact fun e => h (Int.ofNat.inj e)
set_option maxRecDepth 100000 in
set_option maxHeartbeats 2000000 in
theorem match_x : ∀ (p t : Tm) (v v' : Value) (S T : Nat → Prop) (σ : Sb) (b : Nat) (w : World), TmR S w p v → TmR T w t v' → BdR T w b σ → ¬ S b → ¬ T b → p.size ≤ 1000000 → t.size ≤ 100000 →
    Calls Tryz.prog 134 #[v, v', .map (some b)] w fun e w' => e = .returned (.bool (mtch p t σ).isSome) ∧ Upd (fun k => k = b) w w' ∧ ∀ τ, mtch p t σ = some τ → BdR T w' b τ := by
  refine Tm.ind (fun n s L ih => ?_)
  intro t v v' S T σ b w hP hT hB hS hTb hsz hszt
  obtain ⟨m, r, M⟩ := t
  obtain ⟨pa, pc, rfl, hP⟩ := hP
  obtain ⟨ta, tc, rfl, hT⟩ := hT
  dsimp only [tV, Tm.name, Tm.sort, Tm.kids] at hP hT ⊢
  have HPL := Lib.hid hP
  have HTM := Lib.hid hT
  have HBD := Lib.hid hB
  have HNS := Lib.hid hS
  have HNT := Lib.hid hTb
  have HSZT := Lib.hid hszt
  have HIH := Lib.hid ih
  have HNB : Hid (¬ w.heap.size + 1 = b) := Lib.hid (by obtain ⟨l, h1, _⟩ := hB; have := h1.lt; omega)
  have hlL : L.length ≤ 1000000 := by have h1 := length_le_sizes L; have h2 := hsz; rw [size_eq] at h2; exact Nat.le_trans h1 (Nat.le_of_succ_le h2)
  have HLL := Lib.hid hlL
  have hszl : sizes L + 1 ≤ 1000000 := by rw [size_eq] at hsz; exact hsz
  have hszm : sizes M + 1 ≤ 100000 := by rw [size_eq] at hszt; exact hszt
  have HSZ := Lib.hid (And.intro hszl hszm)
  have HSM := Lib.hid (fun (x : Tm) (vx : Value) (hx : TmR T w x vx) (hsx : x.size ≤ 100000) W (hW : Ext w W) => rsame_x x (.mk m r M) vx (.agg #[.string m, .string r, .slice ta M.length tc]) T T W (hx.ext hW) ⟨ta, tc, rfl, hT.ext hW⟩ (by omega))
  obtain ⟨V, hV⟩ : ∃ V, mtch (.mk n s L) (.mk m r M) σ = V := ⟨_, rfl⟩
  rw [hV]
  have HVV := Lib.hid hV
  clear ih hP hT hB hS hTb hsz hszt hlL hszl hszm hV
  have HZ := Lib.hid (((Upd.refl (fun _ => False) w).alloc (.cells #[.string n, .string s, .slice pa L.length pc] 25)).alloc (.cells #[.string m, .string r, .slice ta M.length tc] 25))
  have HA := Lib.hid (allocOld (alloc0 w (.cells #[.string n, .string s, .slice pa L.length pc] 25)) (.cells #[.string m, .string r, .slice ta M.length tc] 25))
  have HB := Lib.hid (alloc_at (w.alloc (.cells #[.string n, .string s, .slice pa L.length pc] 25)) (.cells #[.string m, .string r, .slice ta M.length tc] 25) (n := w.heap.size + 1) (by simp))
  have a0 := cellRow HA.out 0 (.string n) rfl
  have a1 := cellRow HA.out 1 (.string s) rfl
  have a2 := cellRow HA.out 2 (.slice pa L.length pc) rfl
  have b0 := cellRow HB.out 0 (.string m) rfl
  have b1 := cellRow HB.out 1 (.string r) rfl
  have b2 := cellRow HB.out 2 (.slice ta M.length tc) rfl
  by_cases hs0 : s.size = 0
  · have hse := empty_is _ hs0
    subst hse
    clear hs0 HSM
    by_cases hr0 : r.size = 0
    · have hre := empty_is _ hr0
      subst hre
      clear hr0
      by_cases hnm : m = n
      · have t1 : (m.toList == n.toList) = true := by rw [hnm]; simp
        by_cases hlen : M.length = L.length
        · have t2 : ((M.length : Int) != (L.length : Int)) = false := by simp [hlen]
          have HV0 : Hid (mtchL L M σ = V) := Lib.hid (by rw [← HVV.out]; exact (mtch_op (t := .mk m nul M) ⟨rfl, hnm, hlen⟩).symm)
          have HLN := Lib.hid hlen
          have HE0 : Hid (Upd (fun k => k = b) w ((w.alloc (.cells #[.string n, .string ⟨#[]⟩, .slice pa L.length pc] 25)).alloc (.cells #[.string m, .string ⟨#[]⟩, .slice ta M.length tc] 25))) := Lib.hid (HZ.out.mono (fun _ _ h => h.elim))
          have HB0 := Lib.hid (HBD.out.ext HZ.out)
          clear hnm hlen HVV HBD
          go_enter Tryz.func134, Tryz.ntmps134
          go_wp2_with fail
          clear t1 t2 a0 a1 a2 b0 b1 b2 HA HZ
          go_loopg [61] L.length (fun gk iv wr => ∃ (k : Nat) (τ : Sb), iv = .int .i64 (k : Int) ∧ gk = L.length - k ∧ k ≤ L.length ∧ Hid (BdR T wr b τ) ∧ Hid (mtchL (L.drop k) (M.drop k) τ = V) ∧ Hid (Upd (fun k => k = b) w wr) ∧ Hid (wr.heap[w.heap.size + 1]? = some (.cells #[.string m, .string ⟨#[]⟩, .slice ta M.length tc] 25 (0, 0))))
          case atStart => exact ⟨0, σ, rfl, rfl, Nat.zero_le _, HB0, HV0, HE0, HB⟩
          case round =>
            clear HB0 HV0 HE0 HB
            obtain ⟨k, τ, rfl, rfl, hk, HBD, HVK, HE, HBX⟩ := hrel
            by_cases hlt : k < L.length
            · have hltM : k < M.length := by have := HLN.out; omega
              obtain ⟨g, off, hga, _, hat⟩ := (HPL.out.kept HE.out (fun k hk e => HNS.out (e ▸ hk))).at_ (by omega)
              obtain ⟨g', off', hga', _, hat'⟩ := (HTM.out.kept HE.out (fun k hk e => HNT.out (e ▸ hk))).at_ (by omega)
              subst hga
              subst hga'
              obtain ⟨xa, xc, q0, q1, q2, hkid⟩ := hat k hlt
              obtain ⟨ya, yc, p0, p1, p2, hkid'⟩ := hat' k hltM
              have z0 : (0 : Int) ≤ (k : Int) := by omega
              have z1 : (k : Int) < (L.length : Int) := by omega
              have z2 : decide ((k : Int) < (L.length : Int)) = true := decide_eq_true z1
              have z2' : decide (k < L.length) = true := decide_eq_true hlt
              have z3 : (k : Int) < (M.length : Int) := by omega
              have HIX := Lib.hid (fun W (hW : Ext wr W) => HIH.out (tg L k) (tg_mem L k hlt) (tg M k) _ _ S T τ b W ⟨xa, xc, rfl, hkid.ext hW⟩ ⟨ya, yc, rfl, hkid'.ext hW⟩ (HBD.out.ext hW) HNS.out HNT.out (by have h1 := HSZ.out.1; have h2 := size_mem (tg_mem L k hlt); omega) (by have h1 := HSZ.out.2; have h2 := size_mem (tg_mem M k hltM); omega))
              have HVN := Lib.hid (HVK.out.symm.trans (mtchL_at (σ := τ) hlt hltM))
              dsimp only [tV] at HIX
              obtain ⟨x, hx⟩ : ∃ x, tg L k = x := ⟨_, rfl⟩
              obtain ⟨y, hy⟩ : ∃ y, tg M k = y := ⟨_, rfl⟩
              rw [hx] at q0 q1 q2 HIX HVN
              rw [hy] at p0 p1 p2 HIX HVN
              obtain ⟨U, hU⟩ : ∃ U, mtch x y τ = U := ⟨_, rfl⟩
              rw [hU] at HIX HVN
              clear hx hy hU HVK HBD hat hat' hkid hkid'
              rw [← Nat.add_assoc] at q1 q2 p1 p2
              have hQ := (Upd.refl (fun _ => False) wr).alloc (.cells #[.string x.name, .string x.sort, .slice xa x.kids.length xc] 25)
              have p0 := hQ.cell p0 (fun h => h)
              have p1 := hQ.cell p1 (fun h => h)
              have p2 := hQ.cell p2 (fun h => h)
              have HQ := Lib.hid hQ
              have hXB := alloc0 wr (.cells #[.string x.name, .string x.sort, .slice xa x.kids.length xc] 25)
              have e0 := cellRow hXB 0 (.string x.name) rfl
              have e1 := cellRow hXB 1 (.string x.sort) rfl
              have e2 := cellRow hXB 2 (.slice xa x.kids.length xc) rfl
              have hBQ := hQ.heap HBX.out (fun h => h)
              have b2 := cellRow hBQ 2 (.slice (some ⟨g', off', none⟩) M.length tc) rfl
              have HBQ := Lib.hid hBQ
              clear hQ hXB hBQ
              go_wp2_with fail
              generalize wr.alloc (.cells #[.string x.name, .string x.sort, .slice xa x.kids.length xc] 25) = wq at *
              go_still_tail 7, (by kernel_rfl)
              change wpList _ _ _ _ _ wq.drew
              go_wp2_with fail
              refine (HIX.out _ (HQ.out.drewN' 1)).mono ?_
              rintro e w8 ⟨rfl, hw8, hb8⟩
              have HE8 : Hid (Upd (fun k => k = b) w w8) := Lib.hid ((HE.out.ext (HQ.out.drewN' 1)).trans' hw8 (fun _ _ e => e))
              have HBX8 := Lib.hid (hw8.heap HBQ.out (fun e => HNB.out e))
              have HB8 := Lib.hid hb8
              clear hw8 hb8 HIX HQ HBQ p0 p1 p2 q0 q1 q2 e0 e1 e2 b2
              cases U with
              | none =>
                have HVX : Hid (V = none) := Lib.hid HVN.out
                simp only [Option.isSome_none]
                clear HVN
                go_wp2_with fail
                go_ret
                rw [HVX.out]
                exact ⟨rfl, HE8.out, fun _ h => by cases h⟩
              | some υ =>
                have HVX : Hid (mtchL (L.drop (k + 1)) (M.drop (k + 1)) υ = V) := Lib.hid HVN.out.symm
                have HBU := Lib.hid (HB8.out υ rfl)
                have hlL := HLL.out
                simp only [Option.isSome_some]
                clear HVN HB8
                go_wp2_with fail
                go_roundg (L.length - (k + 1))
                case measure => omega
                case rel => exact ⟨k + 1, υ, by go_num, rfl, by omega, HBU, HVX, HE8, HBX8⟩
            · obtain rfl : k = L.length := by omega
              have z2 : decide ((L.length : Int) < (L.length : Int)) = false := decide_eq_false (by omega)
              have HVX : Hid (V = some τ) := Lib.hid (by rw [← HVK.out, List.drop_length]; rfl)
              clear HVK
              go_wp2_with fail
              go_ret
              rw [HVX.out]
              exact ⟨rfl, HE.out, fun υ h => by injection h with h; rw [← h]; exact HBD.out⟩
        · have t2 := ln_ne hlen
          have HV : Hid (V = none) := Lib.hid (by rw [← HVV.out]; exact mtch_no (fun h => hlen h.2.2))
          clear hlen hnm
          go_enter Tryz.func134, Tryz.ntmps134
          go_wp2_with fail
          go_ret
          rw [HV.out]
          exact ⟨rfl, HZ.out.mono (fun _ _ h => h.elim), fun _ h => by cases h⟩
      · have t1 : (m.toList == n.toList) = false := str_ne hnm
        have HV : Hid (V = none) := Lib.hid (by rw [← HVV.out]; exact mtch_no (fun h => hnm h.2.1))
        clear hnm
        go_enter Tryz.func134, Tryz.ntmps134
        go_wp2_with fail
        go_ret
        rw [HV.out]
        exact ⟨rfl, HZ.out.mono (fun _ _ h => h.elim), fun _ h => by cases h⟩
    · have HV : Hid (V = none) := Lib.hid (by rw [← HVV.out]; exact mtch_no (fun h => hr0 (by rw [show r = nul from h.1]; rfl)))
      obtain ⟨r1, r2, r3, r4⟩ := nonempty_t r (by omega)
      go_enter Tryz.func134, Tryz.ntmps134
      go_wp2_with fail
      go_ret
      rw [HV.out]
      exact ⟨rfl, HZ.out.mono (fun _ _ h => h.elim), fun _ h => by cases h⟩
  · have HSN : Hid (s ≠ nul) := Lib.hid (fun e => hs0 (by rw [e]; rfl))
    obtain ⟨s1, s2, s3, s4⟩ := nonempty_t s (by omega)
    obtain ⟨l, hm, hn, hsm⟩ := HBD.out
    cases hx : σ n with
    | some x =>
      obtain ⟨vx, hf, hxT, hxs⟩ := hsm n x hx
      have HV : Hid (V = if x = .mk m r M then some σ else none) := Lib.hid (by rw [← HVV.out]; exact mtch_some HSN.out hx)
      have hl := MpR.get (P := Tryz.prog) (t := 168) (strKey Tryz.underlying9) Tryz.underlying168 (z := .agg #[.string ⟨#[]⟩, .string ⟨#[]⟩, .slice none 0 0]) (Tryz.zeroValue25 ((w.alloc (.cells #[.string n, .string s, .slice pa L.length pc] 25)).alloc (.cells #[.string m, .string r, .slice ta M.length tc] 25))) (hm.ext HZ.out) n true
      simp only [if_true] at hl
      rw [hf] at hl
      have HSX := Lib.hid (HSM.out x vx hxT hxs)
      obtain ⟨xa, xc, rfl, _⟩ := hxT
      dsimp only [tV] at HSX hl
      simp only [Option.getD_some, Option.isSome_some] at hl
      have HZ3 := Lib.hid (HZ.out.alloc (.cells #[.string x.name, .string x.sort, .slice xa x.kids.length xc] 25))
      have hb3 := allocOld HB.out (.cells #[.string x.name, .string x.sort, .slice xa x.kids.length xc] 25)
      have hx3 := alloc_at ((w.alloc (.cells #[.string n, .string s, .slice pa L.length pc] 25)).alloc (.cells #[.string m, .string r, .slice ta M.length tc] 25)) (.cells #[.string x.name, .string x.sort, .slice xa x.kids.length xc] 25) (n := w.heap.size + 2) (by simp)
      have x0 := cellRow hx3 0 (.string x.name) rfl
      have x1 := cellRow hx3 1 (.string x.sort) rfl
      have x2 := cellRow hx3 2 (.slice xa x.kids.length xc) rfl
      have c0 := cellRow hb3 0 (.string m) rfl
      have c1 := cellRow hb3 1 (.string r) rfl
      have c2 := cellRow hb3 2 (.slice ta M.length tc) rfl
      clear hm hn hsm hf hx hb3 hx3 HSM HIH HVV hxs
      go_enter Tryz.func134, Tryz.ntmps134
      go_wp2_with fail
      refine (HSX.out _ HZ3.out).mono ?_
      rintro e w8 ⟨rfl, hw8⟩
      have HE8 := Lib.hid (HZ3.out.trans hw8)
      clear hw8 hl x0 x1 x2 c0 c1 c2 a0 a1 a2 b0 b1 b2 HSX
      go_wp2_with fail
      go_ret
      rw [HV.out]
      by_cases e : x = .mk m r M
      · rw [if_pos e, decide_eq_true e]
        exact ⟨rfl, HE8.out.mono (fun _ _ h => h.elim), fun τ h => by injection h with h; rw [← h]; exact HBD.out.ext HE8.out⟩
      · rw [if_neg e, decide_eq_false e]
        exact ⟨rfl, HE8.out.mono (fun _ _ h => h.elim), fun _ h => by cases h⟩
    | none =>
      have hf := hn n hx
      have hl := MpR.get (P := Tryz.prog) (t := 168) (strKey Tryz.underlying9) Tryz.underlying168 (z := .agg #[.string ⟨#[]⟩, .string ⟨#[]⟩, .slice none 0 0]) (Tryz.zeroValue25 ((w.alloc (.cells #[.string n, .string s, .slice pa L.length pc] 25)).alloc (.cells #[.string m, .string r, .slice ta M.length tc] 25))) (hm.ext HZ.out) n true
      simp only [if_true] at hl
      rw [hf] at hl
      simp only [Option.getD_none, Option.isSome_none] at hl
      have HN := Lib.hid hx
      have HBDS := Lib.hid (And.intro hn hsm)
      have HZ3 := Lib.hid (HZ.out.alloc (.cells #[.string ⟨#[]⟩, .string ⟨#[]⟩, .slice none 0 0] 25))
      have HM3 := Lib.hid ((hm.ext HZ.out).ext ((Upd.refl (fun _ => False) ((w.alloc (.cells #[.string n, .string s, .slice pa L.length pc] 25)).alloc (.cells #[.string m, .string r, .slice ta M.length tc] 25))).alloc (.cells #[.string ⟨#[]⟩, .string ⟨#[]⟩, .slice none 0 0] 25)))
      have ha3 := allocOld HA.out (.cells #[.string ⟨#[]⟩, .string ⟨#[]⟩, .slice none 0 0] 25)
      have hb3 := allocOld HB.out (.cells #[.string ⟨#[]⟩, .string ⟨#[]⟩, .slice none 0 0] 25)
      have d0 := cellRow ha3 0 (.string n) rfl
      have d1 := cellRow ha3 1 (.string s) rfl
      have c0 := cellRow hb3 0 (.string m) rfl
      have c1 := cellRow hb3 1 (.string r) rfl
      have c2 := cellRow hb3 2 (.slice ta M.length tc) rfl
      clear hm hn hsm hf hx ha3 hb3 HSM HIH HBD
      by_cases hr0 : r.size = 0
      · have hre := empty_is _ hr0
        subst hre
        clear hr0
        have HRR : Hid ((⟨#[]⟩ : By) = nul) := Lib.hid rfl
        have HV : Hid (V = some (σ.put n (.mk m ⟨#[]⟩ M))) := Lib.hid (by rw [← HVV.out, mtch_new HSN.out HN.out]; exact if_neg (by rintro ⟨h1, h2⟩; first | exact h1 HRR.out | exact h2 HRR.out))
        obtain ⟨W4, hput, hmp, hu⟩ := MpR.put (P := Tryz.prog) (t := 168) (strKey Tryz.underlying9) Tryz.underlying168 HM3.out n (.agg #[.string m, .string ⟨#[]⟩, .slice ta M.length tc])
        try dsimp only at hput
        have HU4 : Hid (Upd (fun k => k = b) w W4) := Lib.hid ((HZ3.out.mono (fun _ _ h => h.elim)).trans hu)
        have HBD : Hid (BdR T W4 b (σ.put n (.mk m ⟨#[]⟩ M))) := Lib.hid (BdR.put HBDS.out (HZ3.out.mono (fun _ _ h => h.elim)) hu hmp HNT.out ⟨ta, tc, rfl, HTM.out⟩ HSZT.out)
        clear hmp hu
        go_enter Tryz.func134, Tryz.ntmps134
        go_wp2_with fail
        go_ret
        rw [HV.out]
        exact ⟨rfl, HU4.out, fun τ h => by injection h with h; rw [← h]; exact HBD.out⟩
      · obtain ⟨r1, r2, r3, r4⟩ := nonempty_t r (by omega)
        by_cases hrs : r = s
        · have t1 : (r.toList == s.toList) = true := by rw [hrs]; simp
          have HRR := Lib.hid hrs
          clear hrs
          have HV : Hid (V = some (σ.put n (.mk m r M))) := Lib.hid (by rw [← HVV.out, mtch_new HSN.out HN.out]; exact if_neg (by rintro ⟨h1, h2⟩; first | exact h1 HRR.out | exact h2 HRR.out))
          obtain ⟨W4, hput, hmp, hu⟩ := MpR.put (P := Tryz.prog) (t := 168) (strKey Tryz.underlying9) Tryz.underlying168 HM3.out n (.agg #[.string m, .string r, .slice ta M.length tc])
          try dsimp only at hput
          have HU4 : Hid (Upd (fun k => k = b) w W4) := Lib.hid ((HZ3.out.mono (fun _ _ h => h.elim)).trans hu)
          have HBD : Hid (BdR T W4 b (σ.put n (.mk m r M))) := Lib.hid (BdR.put HBDS.out (HZ3.out.mono (fun _ _ h => h.elim)) hu hmp HNT.out ⟨ta, tc, rfl, HTM.out⟩ HSZT.out)
          clear hmp hu
          go_enter Tryz.func134, Tryz.ntmps134
          go_wp2_with fail
          go_ret
          rw [HV.out]
          exact ⟨rfl, HU4.out, fun τ h => by injection h with h; rw [← h]; exact HBD.out⟩
        · have t1 : (r.toList == s.toList) = false := str_ne hrs
          have HV : Hid (V = none) := Lib.hid (by rw [← HVV.out, mtch_new HSN.out HN.out]; exact if_pos ⟨fun e => hr0 (by rw [show r = nul from e]; rfl), hrs⟩)
          clear hrs
          go_enter Tryz.func134, Tryz.ntmps134
          go_wp2_with fail
          go_ret
          rw [HV.out]
          exact ⟨rfl, HZ3.out.mono (fun _ _ h => h.elim), fun _ h => by cases h⟩

end Go.Proofs.YtiimccogojkldaaGreatDoor

/- fill of the rewrite package. -/
namespace Go.Proofs.YtiimccogojkldaaGreatDoor
open Go.RowKit Go.Hw Go
set_option linter.unusedVariables false
set_option linter.unusedSimpArgs false

open Tm
theorem tg_fil (σ : Sb) (L : List Tm) (k : Nat) (h : k < L.length) : tg (L.map (filT σ)) k = filT σ (tg L k) := by
  unfold tg
  rw [List.getD_eq_getElem?_getD, List.getD_eq_getElem?_getD, List.getElem?_map, List.getElem?_eq_getElem h]
  rfl
set_option maxRecDepth 100000 in
set_option maxHeartbeats 2000000 in
theorem fill_x : ∀ (t : Tm) (v : Value) (S T : Nat → Prop) (σ : Sb) (b : Nat) (w : World), TmR S w t v → BdR T w b σ → (∀ k, S k → k < w.heap.size) → (∀ k, T k → k < w.heap.size) → t.size ≤ 100000 →
    Calls Tryz.prog 135 #[v, .map (some b)] w fun e w' => ∃ r B, e = .returned (tV (filT σ t) r) ∧ TlO 25 w' B (filT σ t).kids r ∧ (∀ j, B j → w.heap.size ≤ j ∧ j < w'.heap.size) ∧ Ext w w' := by
  refine Tm.ind (fun nm so L ih => ?_)
  intro v S T σ b w hT hB hS hS2 hsz
  obtain ⟨a, cap, rfl, hT⟩ := hT
  dsimp only [Tm.name, Tm.sort, Tm.kids] at hT
  change Calls Tryz.prog 135 #[.agg #[.string nm, .string so, .slice a L.length cap], .map (some b)] w (fun e w' => ∃ r B, e = .returned (tV (filT σ (.mk nm so L)) r) ∧ TlO 25 w' B (filT σ (.mk nm so L)).kids r ∧ (∀ j, B j → w.heap.size ≤ j ∧ j < w'.heap.size) ∧ Ext w w')
  have HTL := Lib.hid hT
  have HIH := Lib.hid ih
  have HBD := Lib.hid hB
  have HST := Lib.hid (And.intro hS hS2)
  have hszL : sizes L + 1 ≤ 100000 := by rw [size_eq] at hsz; simp only [Tm.kids] at hsz; omega
  have HSL := Lib.hid hszL
  have hlL : L.length ≤ 100000 := by have h1 := length_le_sizes L; omega
  clear ih hT hB hS hS2 hsz hszL
  by_cases hs0 : so.size = 0
  · have hse := empty_is _ hs0
    subst hse
    have HFO : Hid (filT σ (.mk nm ⟨#[]⟩ L) = .mk nm ⟨#[]⟩ (L.map (filT σ))) := Lib.hid (filT_op σ nm L)
    rw [HFO.out]
    dsimp only [tV, Tm.name, Tm.sort, Tm.kids]
    obtain ⟨LM, hLM⟩ : ∃ LM, L.map (filT σ) = LM := ⟨_, rfl⟩
    have HLM : Hid (L.map (filT σ) = LM ∧ LM.length = L.length) := Lib.hid ⟨hLM, by rw [← hLM, List.length_map]⟩
    rw [hLM]
    have hx3 := (((Upd.refl (fun _ => False) w).alloc (.cells #[.string nm, .string ⟨#[]⟩, .slice a L.length cap] 25)).alloc (.cells #[.string ⟨#[]⟩, .string ⟨#[]⟩, .slice none 0 0] 25)).alloc (.cells #[.string nm, .string ⟨#[]⟩, .slice none 0 0] 25)
    have hb1 := allocOld (alloc0 w (.cells #[.string nm, .string ⟨#[]⟩, .slice a L.length cap] 25)) (.cells #[.string ⟨#[]⟩, .string ⟨#[]⟩, .slice none 0 0] 25)
    have p0 := cellRow hb1 0 (.string nm) rfl
    have p1 := cellRow hb1 1 (.string ⟨#[]⟩) rfl
    have p2 := cellRow (allocOld hb1 (.cells #[.string nm, .string ⟨#[]⟩, .slice none 0 0] 25)) 2 (.slice a L.length cap) rfl
    have hb2 := allocOld (alloc_at (w.alloc (.cells #[.string nm, .string ⟨#[]⟩, .slice a L.length cap] 25)) (.cells #[.string ⟨#[]⟩, .string ⟨#[]⟩, .slice none 0 0] 25) (n := w.heap.size + 1) (by simp)) (.cells #[.string nm, .string ⟨#[]⟩, .slice none 0 0] 25)
    have hb3 := alloc_at ((w.alloc (.cells #[.string nm, .string ⟨#[]⟩, .slice a L.length cap] 25)).alloc (.cells #[.string ⟨#[]⟩, .string ⟨#[]⟩, .slice none 0 0] 25)) (.cells #[.string nm, .string ⟨#[]⟩, .slice none 0 0] 25) (n := w.heap.size + 1 + 1) (by simp)
    have hz0 : (((w.alloc (.cells #[.string nm, .string ⟨#[]⟩, .slice a L.length cap] 25)).alloc (.cells #[.string ⟨#[]⟩, .string ⟨#[]⟩, .slice none 0 0] 25)).alloc (.cells #[.string nm, .string ⟨#[]⟩, .slice none 0 0] 25)).heap.size = w.heap.size + 3 := by simp
    have HB2 := Lib.hid hb2
    have HB3 := Lib.hid hb3
    have HE0 := Lib.hid hx3
    have HZ0 := Lib.hid hz0
    clear hb1 hb2 hb3 hx3 hz0 hLM hs0 HFO
    go_enter Tryz.func135, Tryz.ntmps135
    go_wp2_with fail
    clear p0 p1 p2
    generalize (((w.alloc (.cells #[.string nm, .string ⟨#[]⟩, .slice a L.length cap] 25)).alloc (.cells #[.string ⟨#[]⟩, .string ⟨#[]⟩, .slice none 0 0] 25)).alloc (.cells #[.string nm, .string ⟨#[]⟩, .slice none 0 0] 25)) = W0 at *
    obtain ⟨n3, hn3⟩ : ∃ n3, w.heap.size + 1 + 1 = n3 := ⟨_, rfl⟩
    rw [hn3] at HB3 ⊢
    have HN3 := Lib.hid hn3
    clear hn3
    have HJ0 : Hid (CpJ 25 (w.heap.size + 3) W0 LM (.slice none 0 0) [] (fun _ _ => False) 0) := Lib.hid ⟨rfl, ⟨rfl, .inl ⟨rfl, rfl⟩⟩, fun i hi => absurd hi (Nat.not_lt_zero _), fun i j hi => absurd hi (Nat.not_lt_zero _), fun i i' j hi => absurd hi (Nat.not_lt_zero _)⟩
    have HSW0 : Hid (w.heap.size + 3 ≤ W0.heap.size) := Lib.hid (by rw [HZ0.out]; exact Nat.le_refl _)
    clear HZ0
    go_loopg [22] L.length (fun gk iv wr => ∃ (k : Nat) (lv : Value) (us : List Value) (Bk : Nat → Nat → Prop), iv = .int .i64 (k : Int) ∧ gk = L.length - k ∧ k ≤ L.length ∧ Hid (CpJ 25 (w.heap.size + 3) wr LM lv us Bk k) ∧ Hid (wr.heap[w.heap.size + 1]? = some (.cells #[.string ⟨#[]⟩, .string ⟨#[]⟩, .slice none 0 0] 25 (0, 0))) ∧ Hid (wr.heap[n3]? = some (.cells #[.string nm, .string ⟨#[]⟩, lv] 25 (0, 0))) ∧ Hid (Ext w wr) ∧ Hid (w.heap.size + 3 ≤ wr.heap.size))
    case atStart => exact ⟨0, _, _, _, rfl, rfl, Nat.zero_le _, HJ0, HB2, HB3, HE0, HSW0⟩
    case round =>
      clear HJ0 HB2 HB3 HE0 HSW0
      obtain ⟨k, lv, us, Bk, rfl, rfl, hk, HJ, HB2, HB3, HE, HSZ⟩ := hrel
      obtain ⟨la, lc, hlv⟩ := own_shape HJ.out.own
      subst hlv
      by_cases hlt : k < L.length
      · obtain ⟨g, off, hga, _, hat⟩ := (HTL.out.ext HE.out).at_ (by omega)
        subst hga
        obtain ⟨xa, xc, q0, q1, q2, hkid⟩ := hat k hlt
        rw [← Nat.add_assoc] at q1 q2
        have z0 : (0 : Int) ≤ (k : Int) := by omega
        have z1 : (k : Int) < (L.length : Int) := by omega
        have z2 : decide ((k : Int) < (L.length : Int)) = true := decide_eq_true z1
        have z2' : decide (k < L.length) = true := decide_eq_true hlt
        have HIX := Lib.hid (fun W (hW : Ext (wr.alloc (.cells #[.string (tg L k).name, .string (tg L k).sort, .slice xa (tg L k).kids.length xc] 25)) W) => HIH.out (tg L k) (tg_mem L k hlt) _ S T σ b W ⟨xa, xc, rfl, (hkid.ext ((Upd.refl (fun _ => False) wr).alloc _)).ext hW⟩ ((HBD.out.ext HE.out).ext (((Upd.refl (fun _ => False) wr).alloc (.cells #[.string (tg L k).name, .string (tg L k).sort, .slice xa (tg L k).kids.length xc] 25)).trans hW)) (fun j hj => Nat.lt_of_lt_of_le (HST.out.1 j hj) (Nat.le_trans HE.out.size (Nat.le_trans ((Upd.refl (fun _ => False) wr).alloc (.cells #[.string (tg L k).name, .string (tg L k).sort, .slice xa (tg L k).kids.length xc] 25)).size hW.size))) (fun j hj => Nat.lt_of_lt_of_le (HST.out.2 j hj) (Nat.le_trans HE.out.size (Nat.le_trans ((Upd.refl (fun _ => False) wr).alloc (.cells #[.string (tg L k).name, .string (tg L k).sort, .slice xa (tg L k).kids.length xc] 25)).size hW.size))) (by have h1 := HSL.out; have h2 := sizes_take L k hlt; have h3 := sizes_take_le L (k + 1); omega))
        have HX0 := Lib.hid (tg_fil σ L k hlt)
        dsimp only [tV] at HIX
        obtain ⟨x, hx⟩ : ∃ x, tg L k = x := ⟨_, rfl⟩
        rw [hx] at q0 q1 q2 HIX HX0
        obtain ⟨y, hy⟩ : ∃ y, filT σ x = y := ⟨_, rfl⟩
        rw [hy] at HIX HX0
        have HX : Hid (tg LM k = y) := Lib.hid (by rw [← HLM.out.1]; exact HX0.out)
        clear hy HX0
        have hQ := (Upd.refl (fun _ => False) wr).alloc (.cells #[.string x.name, .string x.sort, .slice xa x.kids.length xc] 25)
        have hB5 := alloc0 wr (.cells #[.string x.name, .string x.sort, .slice xa x.kids.length xc] 25)
        have b0 := cellRow hB5 0 (.string x.name) rfl
        have b1 := cellRow hB5 1 (.string x.sort) rfl
        have b2 := cellRow hB5 2 (.slice xa x.kids.length xc) rfl
        have hB3q := allocOld HB3.out (.cells #[.string x.name, .string x.sort, .slice xa x.kids.length xc] 25)
        have c2 := cellRow hB3q 2 (.slice la k lc) rfl
        have HBQ := Lib.hid hB3q
        have HQ := Lib.hid hQ
        have HB2Q := Lib.hid (allocOld HB2.out (.cells #[.string x.name, .string x.sort, .slice xa x.kids.length xc] 25))
        have HOQ := Lib.hid (HJ.out.own.alloc (.cells #[.string x.name, .string x.sort, .slice xa x.kids.length xc] 25))
        have HRN : Hid (¬ (Value.slice la k lc).ownBlock = some n3) := Lib.hid (fun e => by have h1 := (HJ.out.own.lt n3 e).1; have := HN3.out; omega)
        have HK : Hid (k ≤ 100000) := Lib.hid (by omega)
        obtain ⟨iT, hi, hz0, hz1, hz2⟩ := info_parts infoT
        clear hat hkid hx hQ hB5 hB3q
        go_wp2_with fail
        generalize wr.alloc (.cells #[.string x.name, .string x.sort, .slice xa x.kids.length xc] 25) = wq at *
        have HWQ : Hid (Ext wq wq) := Lib.hid (Upd.refl _ _)
        have HSQ : Hid (w.heap.size + 3 ≤ wq.heap.size) := Lib.hid (Nat.le_trans HSZ.out HQ.out.size)
        clear q0 q1 q2
        go_region_law (first
    | (refine step_append_at _ (.tmp 27) (.tmp 31) 23 rfl (w.heap.size + 3) 25 iT (.agg #[.string ⟨#[]⟩, .string ⟨#[]⟩, .slice none 0 0]) 3 56 Tryz.underlying23 hi hz0 hz1 hz2 rfl (by decide) _ _ _ rfl HOW5.out _ 1 1 [.string y.name, .string y.sort, .slice ya y.kids.length yc] rfl rfl HNEW.out HONE.out HLMX.out.1 HLMX.out.2.1 HLMX.out.2.2 ?_; intro v7 w7 hG7; obtain ⟨a7, c7, hv7⟩ := own_shape hG7.own; subst hv7; have hB7 := hG7.upd.heap (allocOld HB5.out (.cells #[.string y.name, .string y.sort, .slice ya y.kids.length yc] 25)) HRN.out; have f7 := fun i => frozenRow hB7 i; have c2 := cellRow hB7 2 (.slice la k lc) rfl; have HB7 := Lib.hid hB7; have HG7 := Lib.hid hG7; clear hG7 hB7)
    | (go_simp; refine (HIX.out wq.drew HWQ.out.drew).mono ?_; rintro e w5 ⟨r, Bx, rfl, hT5, hb5, hw5⟩; obtain ⟨ya, yc, hry⟩ := TlO.shape hT5; subst hry; have HW5 : Hid (Ext wq w5) := Lib.hid (((Upd.refl (fun _ => False) wq).drewN' 1).trans hw5); have HT5 := Lib.hid hT5; have HBX5 : Hid (∀ j, Bx j → wq.heap.size ≤ j ∧ j < w5.heap.size) := Lib.hid hb5; have HB5 := Lib.hid (HW5.out.heap HBQ.out (fun h => h)); have HOW5 : Hid ((w5.alloc (.cells #[.string y.name, .string y.sort, .slice ya y.kids.length yc] 25)).ownsRow (w.heap.size + 3) 25 3 (.slice la k lc) k (tCells (LM.take k) us)) := Lib.hid ((own_kept HOQ.out HW5.out (fun _ _ h => h)).alloc _); have HNEW : Hid (∀ (j : Nat) (u : Value), [Value.string y.name, .string y.sort, .slice ya y.kids.length yc][j]? = some u → (w5.alloc (.cells #[.string y.name, .string y.sort, .slice ya y.kids.length yc] 25)).cell? ((⟨w5.heap.size, 0, none⟩ : Addr).add j) = some u) := Lib.hid (new3 w5 _ _ _ 25); have HONE : Hid (∀ u ∈ [Value.string y.name, .string y.sort, .slice ya y.kids.length yc], u.oneCell' = true) := Lib.hid (fun u hu => by simp at hu; rcases hu with h | h | h <;> (subst h; rfl)); have HLMX : Hid (k + 1 ≤ maxLen ∧ (k + 1) * 56 ≤ 140737488355328 ∧ w.heap.size + 3 ≤ (w5.alloc (.cells #[.string y.name, .string y.sort, .slice ya y.kids.length yc] 25)).heap.size) := Lib.hid ⟨by unfold maxLen; have := HK.out; omega, by have := HK.out; omega, by have h1 := HW5.out.size; have h2 := HSQ.out; simp; omega⟩; have c5 := HW5.out.cell c2 (fun h => h); have c6 := ((Upd.refl (fun _ => False) w5).alloc (.cells #[.string y.name, .string y.sort, .slice ya y.kids.length yc] 25)).cell c5 (fun h => h); clear hT5 hb5 hw5))
        all_goals
          go_wp2_with fail
          have HS8 := Lib.hid ((Upd.refl (fun j => j = n3) w7).setCell (p := ⟨n3, 2, none⟩) (.inl rfl) (.slice a7 (k + 1) c7))
          have HU8 : Hid (Upd (fun j => (Value.slice la k lc).ownBlock = some j ∨ j = n3) wq (w7.setCell ⟨n3, 2, none⟩ (.slice a7 (k + 1) c7))) := Lib.hid (((((HW5.out.alloc (.cells #[.string y.name, .string y.sort, .slice ya y.kids.length yc] 25)).mono (fun _ _ x => x.elim)).trans (HG7.out.upd.mono (fun _ _ e => .inl e)))).trans (HS8.out.mono (fun _ _ e => .inr e)))
          have HJ8 := Lib.hid (HJ.out.grow (by rw [HLM.out.2]; exact hlt) HX.out (by have := HN3.out; omega) HSZ.out HQ.out HW5.out HT5.out HBX5.out ((Upd.refl (fun _ => False) w5).alloc (.cells #[.string y.name, .string y.sort, .slice ya y.kids.length yc] 25)) HG7.out HS8.out)
          have HE8 : Hid (Ext w (w7.setCell ⟨n3, 2, none⟩ (.slice a7 (k + 1) c7))) := Lib.hid ((HE.out.trans HQ.out).trans' HU8.out (fun j hj e => by
            rcases e with e | e
            · have h1 := (HJ.out.own.lt j e).1; omega
            · have := HN3.out; omega))
          have HB28 := Lib.hid (HU8.out.heap HB2Q.out (fun e => by
            rcases e with e | e
            · have h1 := (HJ.out.own.lt _ e).1; omega
            · have := HN3.out; omega))
          have hb38 := setBlock HB7.out 2 (.slice a7 (k + 1) c7)
          have HB38 : Hid ((w7.setCell ⟨n3, 2, none⟩ (.slice a7 (k + 1) c7)).heap[n3]? = some (.cells #[.string nm, .string ⟨#[]⟩, .slice a7 (k + 1) c7] 25 (0, 0))) := Lib.hid (by simpa using hb38)
          have HS9 : Hid (w.heap.size + 3 ≤ (w7.setCell ⟨n3, 2, none⟩ (.slice a7 (k + 1) c7)).heap.size) := Lib.hid (Nat.le_trans HSQ.out HU8.out.size)
          clear hb38 c2 f7
          go_roundg (L.length - (k + 1))
          case measure => omega
          case rel => exact ⟨k + 1, _, _, _, by go_num, rfl, by omega, HJ8, HB28, HB38, HE8, HS9⟩
      · obtain rfl : k = L.length := by omega
        have z2 : decide ((L.length : Int) < (L.length : Int)) = false := decide_eq_false (by omega)
        have c0 := cellRow HB3.out 0 (.string nm) rfl
        have c1 := cellRow HB3.out 1 (.string ⟨#[]⟩) rfl
        have c2 := cellRow HB3.out 2 (.slice la L.length lc) rfl
        have f2 := fun i => frozenRow HB2.out i
        have d0 := cellRow HB2.out 0 (.string ⟨#[]⟩) rfl
        have d1 := cellRow HB2.out 1 (.string ⟨#[]⟩) rfl
        have d2 := cellRow HB2.out 2 (.slice none 0 0) rfl
        go_wp2_with fail
        have hr := st3_heap HB2.out (.string nm) (.string ⟨#[]⟩) (.slice la L.length lc)
        have hu := st3_upd' wr (w.heap.size + 1) (.string nm) (.string ⟨#[]⟩) (.slice la L.length lc)
        have e0 := cellRow hr 0 _ rfl
        have e1 := cellRow hr 1 _ rfl
        have e2 := cellRow hr 2 _ rfl
        refine bodyPost_ret (v := .agg #[.string nm, .string ⟨#[]⟩, .slice la L.length lc]) (by simp [results, Tryz.results61, go_sem, e0, e1, e2]) rfl ⟨.slice la L.length lc, _, rfl, (show CpJ 25 (w.heap.size + 3) wr LM _ us Bk LM.length by rw [HLM.out.2]; exact HJ.out).fin.kept hu (fun j hj e => by have h1 := hj.1; omega), fun j hj => ⟨by have h1 := hj.1; omega, Nat.lt_of_lt_of_le hj.2 hu.size⟩, HE.out.trans' hu (fun j hj e => by omega)⟩
  · obtain ⟨s1, s2, s3, s4⟩ := nonempty_t so (by omega)
    have HSN : Hid (so ≠ nul) := Lib.hid (fun e => hs0 (by rw [e]; rfl))
    obtain ⟨l, hm, hn, hsm⟩ := HBD.out
    have hl := MpR.get (P := Tryz.prog) (t := 168) (strKey Tryz.underlying9) Tryz.underlying168 (z := (.agg #[.string ⟨#[]⟩, .string ⟨#[]⟩, .slice none 0 0])) (Tryz.zeroValue25 ((w.alloc (.cells #[.string nm, .string so, .slice a L.length cap] 25)).alloc (.cells #[.string ⟨#[]⟩, .string ⟨#[]⟩, .slice none 0 0] 25))) (hm.ext (((Upd.refl (fun _ => False) w).alloc (.cells #[.string nm, .string so, .slice a L.length cap] 25)).alloc (.cells #[.string ⟨#[]⟩, .string ⟨#[]⟩, .slice none 0 0] 25))) nm false
    simp only [Bool.false_eq_true, if_false] at hl
    obtain ⟨x, hx⟩ : ∃ x, (σ nm).getD default = x := ⟨_, rfl⟩
    have hfx : ∃ xv, (afind l nm).getD (.agg #[.string ⟨#[]⟩, .string ⟨#[]⟩, .slice none 0 0]) = xv ∧ TmR T w x xv ∧ x.size ≤ 100000 := by
      cases h : σ nm with
      | none =>
        rw [h] at hx
        rw [hn nm h, ← hx]
        exact ⟨_, rfl, ⟨none, 0, rfl, ((TlO.nil 25 w (fun _ => False)).read).weaken (fun _ h => h.elim)⟩, by decide⟩
      | some y =>
        rw [h] at hx
        obtain ⟨v', g1, g2, g3⟩ := hsm nm y h
        rw [g1, ← hx]
        exact ⟨v', rfl, g2, g3⟩
    obtain ⟨xv, e1, hxT, hxs⟩ := hfx
    rw [e1] at hl
    have HC := Lib.hid (fun W (hW : Ext w W) => rcopied_x x xv T W (hxT.ext hW) (fun k hk => Nat.lt_of_lt_of_le (HST.out.2 k hk) hW.size) hxs)
    obtain ⟨xa, xc, rfl, _⟩ := hxT
    dsimp only [tV] at HC hl
    rw [filT_var σ HSN.out, hx]
    dsimp only [tV]
    have HZ := Lib.hid (((Upd.refl (fun _ => False) w).alloc (.cells #[.string nm, .string so, .slice a L.length cap] 25)).alloc (.cells #[.string ⟨#[]⟩, .string ⟨#[]⟩, .slice none 0 0] 25))
    have hb1 := allocOld (alloc0 w (.cells #[.string nm, .string so, .slice a L.length cap] 25)) (.cells #[.string ⟨#[]⟩, .string ⟨#[]⟩, .slice none 0 0] 25)
    have hb2 := alloc_at (w.alloc (.cells #[.string nm, .string so, .slice a L.length cap] 25)) (.cells #[.string ⟨#[]⟩, .string ⟨#[]⟩, .slice none 0 0] 25) (n := w.heap.size + 1) (by simp)
    have p0 := cellRow hb1 0 (.string nm) rfl
    have p1 := cellRow hb1 1 (.string so) rfl
    have HB2 := Lib.hid hb2
    clear hb1 hb2 hm hn hsm hx e1 hxs HIH HBD HTL hs0
    go_enter Tryz.func135, Tryz.ntmps135
    go_wp2_with fail
    refine (HC.out _ HZ.out).mono ?_
    rintro e w5 ⟨r, B, rfl, hT5, hb5, hw5⟩
    obtain ⟨ya, yc, hry⟩ := TlO.shape hT5
    subst hry
    have HW5 := Lib.hid (HZ.out.trans hw5)
    have HT5 := Lib.hid hT5
    have HBX5 : Hid (∀ j, B j → w.heap.size + 2 ≤ j ∧ j < w5.heap.size) := Lib.hid (fun j hj => by have h1 := hb5 j hj; simp at h1; omega)
    have HB5 := Lib.hid (hw5.heap HB2.out (fun h => h))
    have f5 := fun i => frozenRow HB5.out i
    clear hT5 hb5 hw5 hl p0 p1 HC HB2
    have d0 := cellRow HB5.out 0 (.string ⟨#[]⟩) rfl
    have d1 := cellRow HB5.out 1 (.string ⟨#[]⟩) rfl
    have d2 := cellRow HB5.out 2 (.slice none 0 0) rfl
    go_wp2_with fail
    have hr := st3_heap HB5.out (.string x.name) (.string x.sort) (.slice ya x.kids.length yc)
    have hu := st3_upd' w5 (w.heap.size + 1) (.string x.name) (.string x.sort) (.slice ya x.kids.length yc)
    have e0 := cellRow hr 0 _ rfl
    have e1 := cellRow hr 1 _ rfl
    have e2 := cellRow hr 2 _ rfl
    refine bodyPost_ret (v := .agg #[.string x.name, .string x.sort, .slice ya x.kids.length yc]) (by simp [results, Tryz.results135, go_sem, e0, e1, e2]) rfl ⟨.slice ya x.kids.length yc, _, rfl, HT5.out.kept hu (fun j hj e => by have h1 := HBX5.out j hj; omega), fun j hj => ⟨by have h1 := HBX5.out j hj; omega, Nat.lt_of_lt_of_le (HBX5.out j hj).2 hu.size⟩, HW5.out.trans' hu (fun j hj e => by omega)⟩

end Go.Proofs.YtiimccogojkldaaGreatDoor

/- apply of the rewrite package. -/
namespace Go.Proofs.YtiimccogojkldaaGreatDoor
open Go.RowKit Go.Hw Go
set_option linter.unusedVariables false
set_option linter.unusedSimpArgs false

open Tm
/-- what apply answers -/
def ApP (o : Option Tm) (n0 : Nat) (w' : World) (v : Value) : Prop := ∃ r B, v = .tuple #[tV (o.getD default) r, .bool o.isSome] ∧ TlO 25 w' B (o.getD default).kids r ∧ ∀ j, B j → n0 ≤ j ∧ j < w'.heap.size
set_option maxRecDepth 100000 in
set_option maxHeartbeats 2000000 in
theorem apply_x (x y t : Tm) (v v' : Value) (xa ya : Option Addr) (xc yc : Nat) (S T : Nat → Prop) (w : World) (hx : TlR S w x.kids (.slice xa x.kids.length xc)) (hy : TlR S w y.kids (.slice ya y.kids.length yc)) (hv : v = .agg #[.string x.name, .string x.sort, .slice xa x.kids.length xc, .string y.name, .string y.sort, .slice ya y.kids.length yc]) (ht : TmR T w t v')
    (hS : ∀ k, S k → k < w.heap.size) (hT : ∀ k, T k → k < w.heap.size) (hsx : x.size ≤ 100000) (hsy : y.size ≤ 100000) (hst : t.size ≤ 100000) :
    Calls Tryz.prog 119 #[v, v'] w fun e w' => ∃ r, e = .returned r ∧ ApP (aplF (x, y) t) w.heap.size w' r ∧ Ext w w' := by
  subst hv
  obtain ⟨ta, tc, rfl, ht⟩ := ht
  have HX := Lib.hid hx
  have HY := Lib.hid hy
  have HT := Lib.hid ht
  have HS := Lib.hid (And.intro hS hT)
  have HSZ := Lib.hid (And.intro hsx (And.intro hsy hst))
  have hz0 := ((((Upd.refl (fun _ => False) w).alloc (.cells #[.string x.name, .string x.sort, .slice xa x.kids.length xc, .string y.name, .string y.sort, .slice ya y.kids.length yc] 38)).alloc (.cells #[.string t.name, .string t.sort, .slice ta t.kids.length tc] 25)).alloc (.cells #[.string ⟨#[]⟩, .string ⟨#[]⟩, .slice none 0 0] 25))
  have hb0 := allocOld (allocOld (allocOld (alloc0 w (.cells #[.string x.name, .string x.sort, .slice xa x.kids.length xc, .string y.name, .string y.sort, .slice ya y.kids.length yc] 38)) (.cells #[.string t.name, .string t.sort, .slice ta t.kids.length tc] 25)) (.cells #[.string ⟨#[]⟩, .string ⟨#[]⟩, .slice none 0 0] 25)) (.map #[] 0)
  have hb1 := allocOld (allocOld (alloc_at (w.alloc (.cells #[.string x.name, .string x.sort, .slice xa x.kids.length xc, .string y.name, .string y.sort, .slice ya y.kids.length yc] 38)) (.cells #[.string t.name, .string t.sort, .slice ta t.kids.length tc] 25) (n := w.heap.size + 1) (by simp)) (.cells #[.string ⟨#[]⟩, .string ⟨#[]⟩, .slice none 0 0] 25)) (.map #[] 0)
  have hb2 := allocOld (alloc_at ((w.alloc (.cells #[.string x.name, .string x.sort, .slice xa x.kids.length xc, .string y.name, .string y.sort, .slice ya y.kids.length yc] 38)).alloc (.cells #[.string t.name, .string t.sort, .slice ta t.kids.length tc] 25)) (.cells #[.string ⟨#[]⟩, .string ⟨#[]⟩, .slice none 0 0] 25) (n := w.heap.size + 2) (by simp)) (.map #[] 0)
  have hmd := BdR.made T (((w.alloc (.cells #[.string x.name, .string x.sort, .slice xa x.kids.length xc, .string y.name, .string y.sort, .slice ya y.kids.length yc] 38)).alloc (.cells #[.string t.name, .string t.sort, .slice ta t.kids.length tc] 25)).alloc (.cells #[.string ⟨#[]⟩, .string ⟨#[]⟩, .slice none 0 0] 25))
  have hsz : (((w.alloc (.cells #[.string x.name, .string x.sort, .slice xa x.kids.length xc, .string y.name, .string y.sort, .slice ya y.kids.length yc] 38)).alloc (.cells #[.string t.name, .string t.sort, .slice ta t.kids.length tc] 25)).alloc (.cells #[.string ⟨#[]⟩, .string ⟨#[]⟩, .slice none 0 0] 25)).heap.size = w.heap.size + 3 := by simp
  rw [hsz] at hmd
  have HZ := Lib.hid (hz0.alloc (.map #[] 0))
  have HB0 := Lib.hid hb0
  have HB1 := Lib.hid hb1
  have HB2 := Lib.hid hb2
  have HMD := Lib.hid hmd
  have HM := Lib.hid (fun W (hW : Ext w W) (hb : BdR T W (w.heap.size + 3) sb0) => match_x x t (.agg #[.string x.name, .string x.sort, .slice xa x.kids.length xc]) (.agg #[.string t.name, .string t.sort, .slice ta t.kids.length tc]) S T sb0 (w.heap.size + 3) W ⟨xa, xc, rfl, hx.ext hW⟩ ⟨ta, tc, rfl, ht.ext hW⟩ hb (fun h => by have := hS _ h; omega) (fun h => by have := hT _ h; omega) (by omega) hst)
  have HF := Lib.hid (fun τ W (hW : Ext w W) (hb : BdR T W (w.heap.size + 3) τ) => fill_x y (.agg #[.string y.name, .string y.sort, .slice ya y.kids.length yc]) S T τ (w.heap.size + 3) W ⟨ya, yc, rfl, hy.ext hW⟩ hb (fun k hk => Nat.lt_of_lt_of_le (hS k hk) hW.size) (fun k hk => Nat.lt_of_lt_of_le (hT k hk) hW.size) hsy)
  have HU : Hid (aplF (x, y) t = (mtch x t sb0).map fun σ => filT σ y) := Lib.hid rfl
  dsimp only [tV] at HF ⊢
  have a0 := cellRow hb0 0 (.string x.name) rfl
  have a1 := cellRow hb0 1 (.string x.sort) rfl
  have a2 := cellRow hb0 2 (.slice xa x.kids.length xc) rfl
  have b0 := cellRow hb1 0 (.string t.name) rfl
  have b1 := cellRow hb1 1 (.string t.sort) rfl
  have b2 := cellRow hb1 2 (.slice ta t.kids.length tc) rfl
  clear hx hy ht hS hT hsx hsy hst hz0 hb0 hb1 hb2 hmd hsz
  have hmm := @run_makeMap Tryz.prog
  go_enter Tryz.func119, Tryz.ntmps119
  go_wp2_with fail
  clear hmm
  refine (HM.out _ HZ.out HMD.out).mono ?_
  rintro e w5 ⟨rfl, hw5, hbd⟩
  have HE5 : Hid (Ext w w5) := Lib.hid (HZ.out.trans' hw5 (fun j hj e => by omega))
  have HC0 := Lib.hid (hw5.heap HB0.out (by omega))
  have HC5 := Lib.hid (hw5.heap HB2.out (by omega))
  have HBD := Lib.hid hbd
  obtain ⟨M, hM⟩ : ∃ M, mtch x t sb0 = M := ⟨_, rfl⟩
  rw [hM] at HBD HU ⊢
  clear hw5 hbd hM a0 a1 a2 b0 b1 b2 HM HMD HB0 HB1 HB2 HZ
  cases M with
  | none =>
    have HV : Hid (aplF (x, y) t = none) := Lib.hid HU.out
    simp only [Option.isSome_none]
    clear HU HF HBD
    have f5 := fun i => frozenRow HC5.out i
    have d0 := cellRow HC5.out 0 (.string ⟨#[]⟩) rfl
    have d1 := cellRow HC5.out 1 (.string ⟨#[]⟩) rfl
    have d2 := cellRow HC5.out 2 (.slice none 0 0) rfl
    go_wp2_with fail
    have hr := st3_heap HC5.out (.string ⟨#[]⟩) (.string ⟨#[]⟩) (.slice none 0 0)
    have hu := st3_upd' w5 (w.heap.size + 2) (.string ⟨#[]⟩) (.string ⟨#[]⟩) (.slice none 0 0)
    have e0 := cellRow hr 0 _ rfl
    have e1 := cellRow hr 1 _ rfl
    have e2 := cellRow hr 2 _ rfl
    refine bodyPost_ret (v := .tuple #[.agg #[.string ⟨#[]⟩, .string ⟨#[]⟩, .slice none 0 0], .bool false]) (by simp [results, Tryz.results119, go_sem, e0, e1, e2]) rfl ⟨_, rfl, by rw [HV.out]; exact ⟨.slice none 0 0, fun _ => False, rfl, TlO.nil _ _ _, fun _ h => h.elim⟩, HE5.out.trans' hu (fun j hj e => by omega)⟩
  | some τ =>
    have HV : Hid (aplF (x, y) t = some (filT τ y)) := Lib.hid HU.out
    simp only [Option.isSome_some]
    have HFX := Lib.hid (fun W (hW : Ext w5 W) => HF.out τ W (HE5.out.trans hW) ((HBD.out τ rfl).ext hW))
    obtain ⟨z, hz⟩ : ∃ z, filT τ y = z := ⟨_, rfl⟩
    rw [hz] at HFX HV
    have HFX0 := Lib.hid (HBD.out τ rfl)
    clear HU HF HBD hz
    have a3 := cellRow HC0.out 3 (.string y.name) rfl
    have a4 := cellRow HC0.out 4 (.string y.sort) rfl
    have a5 := cellRow HC0.out 5 (.slice ya y.kids.length yc) rfl
    go_wp2_with fail
    refine (HFX.out _ (Upd.refl _ _)).mono ?_
    rintro e w6 ⟨r, B, rfl, hT6, hb6, hw6⟩
    obtain ⟨za, zc, hry⟩ := TlO.shape hT6
    subst hry
    have HE6 := Lib.hid (HE5.out.trans hw6)
    have HT6 := Lib.hid hT6
    have HBX : Hid (∀ j, B j → w5.heap.size ≤ j ∧ j < w6.heap.size) := Lib.hid hb6
    have HS5 : Hid (w.heap.size + 3 ≤ w5.heap.size) := Lib.hid (by
      have h1 := HC5.out
      obtain ⟨l, h2, _⟩ := HFX0.out
      have := h2.lt
      omega)
    have HC6 := Lib.hid (hw6.heap HC5.out (fun h => h))
    clear hT6 hb6 hw6 HFX a3 a4 a5 HC5
    have f6 := fun i => frozenRow HC6.out i
    have d0 := cellRow HC6.out 0 (.string ⟨#[]⟩) rfl
    have d1 := cellRow HC6.out 1 (.string ⟨#[]⟩) rfl
    have d2 := cellRow HC6.out 2 (.slice none 0 0) rfl
    go_wp2_with fail
    have hr := st3_heap HC6.out (.string z.name) (.string z.sort) (.slice za z.kids.length zc)
    have hu := st3_upd' w6 (w.heap.size + 2) (.string z.name) (.string z.sort) (.slice za z.kids.length zc)
    have e0 := cellRow hr 0 _ rfl
    have e1 := cellRow hr 1 _ rfl
    have e2 := cellRow hr 2 _ rfl
    refine bodyPost_ret (v := .tuple #[.agg #[.string z.name, .string z.sort, .slice za z.kids.length zc], .bool true]) (by simp [results, Tryz.results119, go_sem, e0, e1, e2]) rfl ⟨_, rfl, by rw [HV.out]; exact ⟨.slice za z.kids.length zc, B, rfl, HT6.out.kept hu (fun j hj e => by have h1 := HBX.out j hj; have h2 := HS5.out; omega), fun j hj => ⟨by have h1 := HBX.out j hj; have h2 := HS5.out; omega, Nat.lt_of_lt_of_le (HBX.out j hj).2 hu.size⟩⟩, HE6.out.trans' hu (fun j hj e => by omega)⟩

end Go.Proofs.YtiimccogojkldaaGreatDoor

/- at. -/
namespace Go.Proofs.YtiimccogojkldaaGreatDoor
open Go.RowKit Go.Hw Go
set_option linter.unusedVariables false
set_option linter.unusedSimpArgs false

open Tm
/-- the subterm at a path of integers -/
def subI : Tm → List Int → Option Tm
  | t, [] => some t
  | t, i :: p => if i < 0 ∨ (t.kids.length : Int) ≤ i then none else subI (tg t.kids i.toNat) p
theorem subI_cons (t : Tm) (i : Int) (p : List Int) : subI t (i :: p) = if i < 0 ∨ (t.kids.length : Int) ≤ i then none else subI (tg t.kids i.toNat) p := by rw [subI]
theorem AdrP.snoc {w : World} {i : Nat} : ∀ {p : List Nat} {a a' a'' : Nat × Nat}, AdrP w p a a' → AdrP w [i] a' a'' → AdrP w (p ++ [i]) a a''
  | [], a, a', a'', h, h2 => by
    have h : a' = a := h
    rw [← h]; exact h2
  | j :: p, a, a', a'', h, h2 => by
    obtain ⟨g, off, n, c, h3, h4⟩ := h
    exact ⟨g, off, n, c, h3, AdrP.snoc h4 h2⟩
theorem subI_ok : ∀ {p : List Int} {t x : Tm}, subI t p = some x → okP t (p.map Int.toNat) ∧ tmAt t (p.map Int.toNat) = x
  | [], t, x, h => by
    injection h with h
    exact ⟨trivial, h⟩
  | i :: p, t, x, h => by
    rw [subI_cons] at h
    by_cases h1 : i < 0 ∨ (t.kids.length : Int) ≤ i
    · rw [if_pos h1] at h; cases h
    · rw [if_neg h1] at h
      obtain ⟨h2, h3⟩ := subI_ok h
      exact ⟨⟨by omega, h2⟩, h3⟩
/-- a term at an address -/
def TmA (S : Nat → Prop) (w : World) (a : Nat × Nat) (t : Tm) : Prop := ∃ xa xc, w.cell? ⟨a.1, a.2, none⟩ = some (.string t.name) ∧ w.cell? ⟨a.1, a.2 + 1, none⟩ = some (.string t.sort) ∧ w.cell? ⟨a.1, a.2 + 2, none⟩ = some (.slice xa t.kids.length xc) ∧ TlR S w t.kids (.slice xa t.kids.length xc)
/-- what at answers -/
def AtP (S : Nat → Prop) (w : World) (t : Tm) (p : List Int) (a : Nat × Nat) (e : Ending) : Prop :=
  (subI t p = none ∧ e = .returned (.pointer none)) ∨ ∃ x a', subI t p = some x ∧ e = .returned (.pointer (some ⟨a'.1, a'.2, none⟩)) ∧ AdrP w (p.map Int.toNat) a a' ∧ TmA S w a' x
theorem AtP.no {S : Nat → Prop} {w : World} {t : Tm} {p : List Int} {a : Nat × Nat} (h : subI t p = none) : AtP S w t p a (.returned (.pointer none)) := .inl ⟨h, rfl⟩
theorem AtP.yes {S : Nat → Prop} {w : World} {t x : Tm} {p : List Int} {a a' : Nat × Nat} (h : subI t p = some x) (h2 : AdrP w (p.map Int.toNat) a a') (h3 : TmA S w a' x) : AtP S w t p a (.returned (.pointer (some ⟨a'.1, a'.2, none⟩))) := .inr ⟨x, a', h, rfl, h2, h3⟩
set_option maxRecDepth 100000 in
set_option maxHeartbeats 2000000 in
theorem at_x (t : Tm) (p : List Int) (pv : Value) (a : Nat × Nat) (S T : Nat → Prop) (w : World) (hA : TmA S w a t) (hP : SlR T w 1 pv p.length (p.map (Value.int .i64))) (hl : p.length ≤ 1000000) :
    Calls Tryz.prog 60 #[.pointer (some ⟨a.1, a.2, none⟩), pv] w fun e w' => AtP S w t p a e ∧ w = w' := by
  obtain ⟨pa, pc, rfl⟩ := SlR.shape hP
  have HP := Lib.hid hP
  have HA := Lib.hid hA
  obtain ⟨b, o⟩ := a
  clear hP hA
  go_enter Tryz.func60, Tryz.ntmps60
  go_wp2_with fail
  go_loopg [0, 9] p.length (fun gk qv iv wr => ∃ (k : Nat) (c : Nat × Nat) (x : Tm), qv = .pointer (some ⟨c.1, c.2, none⟩) ∧ iv = .int .i64 (k : Int) ∧ gk = p.length - k ∧ k ≤ p.length ∧ Hid (subI t p = subI x (p.drop k)) ∧ Hid (AdrP w ((p.take k).map Int.toNat) (b, o) c) ∧ Hid (TmA S w c x) ∧ w = wr)
  case atStart => exact ⟨0, (b, o), t, rfl, rfl, rfl, Nat.zero_le _, Lib.hid rfl, Lib.hid rfl, HA, rfl⟩
  case round =>
    clear HA
    obtain ⟨k, ⟨cb, co⟩, x, rfl, rfl, rfl, hk, HS, HD, HX, rfl⟩ := hrel
    by_cases hlt : k < p.length
    · obtain ⟨g, off, hga, _, hat⟩ := SlR.one_at (d := (0 : Int)) HP.out (by omega)
      subst hga
      have q0 := hat k hlt
      have z0 : (0 : Int) ≤ (k : Int) := by omega
      have z1 : (k : Int) < (p.length : Int) := by omega
      have z2 : decide ((k : Int) < (p.length : Int)) = true := decide_eq_true z1
      have z2' : decide (k < p.length) = true := decide_eq_true hlt
      have hd : p.drop k = p.getD k 0 :: p.drop (k + 1) := by
        rw [List.drop_eq_getElem_cons hlt, List.getD_eq_getElem?_getD, List.getElem?_eq_getElem hlt]; rfl
      have htk : p.take (k + 1) = p.take k ++ [p.getD k 0] := by
        rw [List.take_add_one, List.getD_eq_getElem?_getD, List.getElem?_eq_getElem hlt]; rfl
      have hs := HS.out
      rw [hd, subI_cons] at hs
      have HS2 := Lib.hid hs
      have HTK := Lib.hid htk
      obtain ⟨i, hi⟩ : ∃ i, p.getD k 0 = i := ⟨_, rfl⟩
      rw [hi] at q0 HS2 HTK
      clear hat hd htk hs hi HS
      obtain ⟨xa, xc, x0, x1, x2, hx⟩ := HX.out
      dsimp only at x0 x1 x2
      by_cases hi0 : i < 0
      · have HV : Hid (subI t p = none) := Lib.hid (by rw [HS2.out, if_pos (.inl hi0)])
        have y1 : decide (i < 0) = true := decide_eq_true hi0
        clear x0 x1 x2 hx
        go_wp2_with fail
        all_goals go_ret
        all_goals exact ⟨AtP.no HV.out, rfl⟩
      have y1 : decide (i < 0) = false := decide_eq_false hi0
      by_cases hi1 : (x.kids.length : Int) ≤ i
      · have HV : Hid (subI t p = none) := Lib.hid (by rw [HS2.out, if_pos (.inr hi1)])
        have y2 : decide ((x.kids.length : Int) ≤ i) = true := decide_eq_true hi1
        clear x0 x1 hx
        go_wp2_with fail
        all_goals go_ret
        all_goals exact ⟨AtP.no HV.out, rfl⟩
      have y2 : decide ((x.kids.length : Int) ≤ i) = false := decide_eq_false hi1
      have HV : Hid (subI t p = subI (tg x.kids i.toNat) (p.drop (k + 1))) := Lib.hid (by rw [HS2.out, if_neg (by omega)])
      obtain ⟨j, rfl⟩ : ∃ j : Nat, i = (j : Int) := ⟨i.toNat, by omega⟩
      have hjn : ((j : Int)).toNat = j := by omega
      rw [hjn] at HV
      have hj : j < x.kids.length := by omega
      obtain ⟨g2, off2, hga2, _, hat2⟩ := hx.at_ (by omega)
      subst hga2
      obtain ⟨ya, yc, r0, r1, r2, hy⟩ := hat2 j hj
      have HD2 : Hid (AdrP w ((p.take (k + 1)).map Int.toNat) (b, o) (g2, off2 + j * 3)) := Lib.hid (by
        rw [HTK.out, List.map_append]
        refine AdrP.snoc HD.out ⟨g2, off2, x.kids.length, xc, x2, ?_⟩
        rw [hjn]
        rfl)
      have HX2 : Hid (TmA S w (g2, off2 + j * 3) (tg x.kids j)) := Lib.hid ⟨ya, yc, r0, by rw [Nat.add_assoc]; exact r1, by rw [Nat.add_assoc]; exact r2, hy⟩
      have u0 : (0 : Int) ≤ (j : Int) := by omega
      have u1 : (j : Int) < (x.kids.length : Int) := by omega
      clear x0 x1 hx hat2 r0 r1 r2 hy HS2 HTK HD HX hi0 hi1 hjn
      go_wp2_with fail
      go_roundg (p.length - (k + 1))
      case measure => omega
      case rel => exact ⟨k + 1, (g2, off2 + j * 3), tg x.kids j, rfl, by go_num, rfl, by omega, HV, HD2, HX2, rfl⟩
    · obtain rfl : k = p.length := by omega
      have z2 : decide ((p.length : Int) < (p.length : Int)) = false := decide_eq_false (by omega)
      have HV : Hid (subI t p = some x) := Lib.hid (by rw [HS.out, List.drop_length]; rfl)
      have hdd := HD.out
      rw [List.take_length] at hdd
      have HDD := Lib.hid hdd
      clear hdd
      go_wp2_with fail
      go_ret
      exact ⟨AtP.yes (a' := (cb, co)) HV.out HDD.out HX.out, rfl⟩

end Go.Proofs.YtiimccogojkldaaGreatDoor
