/- The texts I58 I59, one behind the other. -/
import Derived.Test.YtiimccogojkldaaGreatDoorZD
import Derived.Test.YtiimccogojkldaaGreatDoorZL
import Derived.Test.YtiimccogojkldaaGreatDoorZB
import Derived.BigQuiet
/- Ops of the reference into a row of one's own. -/
namespace Go.Proofs.YtiimccogojkldaaGreatDoor
open Go.RowKit Go.Hw Go
set_option linter.unusedVariables false
set_option linter.unusedSimpArgs false

open Tm
/-- a row of strings of one's own -/
def OwS (base : Nat) (W : World) (v : Value) (l : List By) : Prop := W.ownsRow base 9 1 v l.length (l.map Value.string)
theorem own_base {w : World} {b b' e size n : Nat} {v : Value} {xs : List Value} (h : w.ownsRow b e size v n xs) (hb : b' ≤ b) : w.ownsRow b' e size v n xs := by
  obtain ⟨h1, h2⟩ := h
  refine ⟨h1, ?_⟩
  rcases h2 with h2 | ⟨g, cap, cur, e0, h3, h4⟩
  · exact .inl h2
  · exact .inr ⟨g, cap, cur, e0, Nat.le_trans hb h3, h4⟩
set_option maxRecDepth 100000 in
set_option maxHeartbeats 2000000 in
theorem ropsO_x (base : Nat) : ∀ (t : Tm) (l : List By) (v v' : Value) (T : Nat → Prop) (w : World), TmR T w t v' → OwS base w v l → base ≤ w.heap.size → l.length + t.size ≤ 100000 →
    Calls Tryz.prog 50 #[v, v'] w fun e w' => ∃ r, e = .returned r ∧ OwS base w' r (aFold l (opN t)) ∧ Ext w w' := by
  refine Tm.ind (fun nm so L ih => ?_)
  intro l v v' T w hT hF hbw hsz
  obtain ⟨a, cap, rfl, hT⟩ := hT
  dsimp only [tV, Tm.name, Tm.sort, Tm.kids] at hT ⊢
  have HTL := Lib.hid hT
  have HIH := Lib.hid ih
  have HF := Lib.hid hF
  obtain ⟨fa, fc, rfl⟩ := own_shape hF
  have HBW := Lib.hid hbw
  clear ih hT hF hbw
  have hroom : l.length + sizes L + 1 ≤ 100000 := by rw [size_eq] at hsz; exact hsz
  have HR0 := Lib.hid hroom
  have hll : l.length ≤ 100000 := by omega
  have hlL : L.length ≤ 100000 := by have h1 := length_le_sizes L; omega
  clear hsz hroom
  have HZ := Lib.hid ((Upd.refl (fun _ => False) w).alloc (.cells #[.string nm, .string so, .slice a L.length cap] 25))
  have HB := Lib.hid (alloc0 w (.cells #[.string nm, .string so, .slice a L.length cap] 25))
  have HNB : Hid (∀ (W : World) (v : Value) (n : Nat) (xs : List Value), W.ownsRow w.heap.size 9 1 v n xs → W.heap[w.heap.size]? = some (.cells #[.string nm, .string ⟨#[]⟩, .slice a L.length cap] 25 (0, 0)) → v.ownBlock = some w.heap.size → False) := Lib.hid (fun W v n xs h1 h2 h3 => own_not_box (by decide) h1 h2 h3)
  have c0 := cellRow HB.out 0 (.string nm) rfl
  have c1 := cellRow HB.out 1 (.string so) rfl
  have c2 := cellRow HB.out 2 (.slice a L.length cap) rfl
  by_cases hs0 : so.size = 0
  · have hse := empty_is _ hs0
    subst hse
    have HIX0 := Lib.hid (fun W (hW : Ext w W) => index_x l nm _ _ W (SlR.of_own (own_kept HF.out hW (fun _ _ h => h))) (by omega))
    have HNG := Lib.hid (ixI_neg l nm)
    by_cases hm : nm ∈ l
    · have z1 : ¬ (ixI l nm < 0) := by have := ixI_neg l nm; rw [decide_eq_true hm] at this; exact of_decide_eq_false this
      have HOPN : Hid (aFold l (opN (.mk nm ⟨#[]⟩ L)) = aFold l (L.flatMap opN)) := Lib.hid (by
        rw [opN_mk, if_pos (show (⟨#[]⟩ : By) = nul from rfl), aFold_append]
        unfold aFold aIns
        simp [hm])
      have HL0 : Hid (l.length ≤ l.length + 1) := Lib.hid (Nat.le_succ _)
      clear hm HNG
      generalize ixI l nm = IXV at *
      go_enter Tryz.func50, Tryz.ntmps50
      go_wp2_with fail
      refine (HIX0.out _ HZ.out).mono ?_
      rintro e w4 ⟨rfl, rfl⟩
      go_wp2_with fail
      clear c0 c1 c2 z1
      go_loopg [0, 5] L.length (fun gk lv iv wr => ∃ k : Nat, iv = .int .i64 (k : Int) ∧ gk = L.length - k ∧ k ≤ L.length ∧ Hid (OwS base wr lv (aFold (l) ((L.take k).flatMap opN))) ∧ Hid (Ext w wr) ∧ Hid (wr.heap[w.heap.size]? = some (.cells #[.string nm, .string ⟨#[]⟩, .slice a L.length cap] 25 (0, 0))))
      case atStart => exact ⟨0, rfl, rfl, Nat.zero_le _, (Lib.hid (own_kept HF.out HZ.out (fun _ _ h => h)) : Hid (OwS base _ (.slice fa l.length fc) l)), HZ, HB⟩
      case round =>
        obtain ⟨k, rfl, rfl, hk, HFk, HE, HBr⟩ := hrel
        have c2 := cellRow HBr.out 2 (.slice a L.length cap) rfl
        by_cases hlt : k < L.length
        · obtain ⟨g, off, rfl, _, hat⟩ := (HTL.out.ext HE.out).at_ (by omega)
          obtain ⟨ka, kc, q0, q1, q2, hkid⟩ := hat k hlt
          have z0 : (0 : Int) ≤ (k : Int) := by omega
          have z1 : (k : Int) < (L.length : Int) := by omega
          have z2 : decide ((k : Int) < (L.length : Int)) = true := decide_eq_true z1
          have z2' : decide (k < L.length) = true := decide_eq_true hlt
          have hmem := tg_mem L k hlt
          have hrm := flat_room opN opN_len L k hlt
          have hln := aFold_len ((L.take k).flatMap opN) (l)
          have hl0 := HL0.out
          have hsn := flat_snoc opN L k hlt
          have HIX := Lib.hid (HIH.out (tg L k) hmem _ _ _ T wr ⟨ka, kc, rfl, hkid⟩ HFk.out (Nat.le_trans HBW.out HE.out.size) (by have := HR0.out; omega))
          dsimp only [tV] at HIX
          rw [← aFold_append, ← hsn] at HIX
          obtain ⟨x, hx⟩ : ∃ x, tg L k = x := ⟨_, rfl⟩
          rw [hx] at q0 q1 q2 HIX
          rw [← Nat.add_assoc] at q1 q2
          obtain ⟨fa, fc, hlv⟩ := own_shape HFk.out
          subst hlv
          clear hmem hrm hln hl0 hsn hx hat hkid
          go_wp2_with fail
          refine HIX.out.mono ?_
          rintro e w8 ⟨r, rfl, hr, hw8⟩
          have HE8 := Lib.hid (HE.out.trans hw8)
          have HB8 := Lib.hid (hw8.heap HBr.out (fun h => h))
          have HFr := Lib.hid (hr : OwS base w8 r (aFold (l) ((L.take (k + 1)).flatMap opN)))
          clear hr hw8 c2 q0 q1 q2 HIX
          go_wp2_with fail
          go_roundg (L.length - (k + 1))
          case measure => omega
          case rel => exact ⟨k + 1, by go_num, rfl, by omega, HFr, HE8, HB8⟩
        · obtain rfl : k = L.length := by omega
          have z2 : decide ((L.length : Int) < (L.length : Int)) = false := decide_eq_false (by omega)
          have HFL := HFk.out
          rw [List.take_length] at HFL
          have HFQ := Lib.hid HFL
          clear HFL
          go_wp2_with fail
          go_ret
          rw [HOPN.out]
          exact ⟨_, rfl, HFQ.out, HE.out⟩
    · have z1 : ixI l nm < 0 := by have := ixI_neg l nm; rw [decide_eq_false hm] at this; exact of_decide_eq_true this
      have HOPN : Hid (aFold l (opN (.mk nm ⟨#[]⟩ L)) = aFold (l ++ [nm]) (L.flatMap opN)) := Lib.hid (by
        rw [opN_mk, if_pos (show (⟨#[]⟩ : By) = nul from rfl), aFold_append]
        unfold aFold aIns
        simp [hm])
      have HL0 : Hid ((l ++ [nm]).length ≤ l.length + 1) := Lib.hid (by simp)
      clear hm HNG
      generalize ixI l nm = IXV at *
      go_enter Tryz.func50, Tryz.ntmps50
      go_wp2_with fail
      refine (HIX0.out _ HZ.out).mono ?_
      rintro e w4 ⟨rfl, rfl⟩
      go_wp2_with fail
      clear c0 c1 c2 z1
      have c0 := cellRow HB.out 0 (.string nm) rfl
      have xf0 := fun x : XW (w.alloc (.cells #[.string nm, .string ⟨#[]⟩, .slice a L.length cap] 25)) => x.ext.cell c0 (fun h => h)
      clear c0
      generalize hwz : w.alloc (.cells #[.string nm, .string ⟨#[]⟩, .slice a L.length cap] 25) = wz at *
      clear hwz
      refine wp_region_parF (α := Option Addr × Nat) 6 [] 6 [(6, 2), (7, 2)] [[], [], [0, 1], [], [3], [3, 4], [0, 1, 2, 3, 4, 5], [0, 1, 2, 3, 4, 5, 6]]
        [some ⟨fun x => .slice x.1 0 0, fun x W => W.ownsRow w.heap.size 9 1 (.slice x.1 0 0) 0 [], fun x W W' h hE => own_kept h hE (fun _ _ h => h)⟩, none, some ⟨fun x => .slice x.1 l.length x.2, fun x W => W.ownsRow w.heap.size 9 1 (.slice x.1 l.length x.2) l.length (l.map Value.string), fun x W W' h hE => own_kept h hE (fun _ _ h => h)⟩, none, none, some ⟨fun x => .slice x.1 1 x.2, fun x W => StR (fun j => w.heap.size ≤ j) W (.slice x.1 1 x.2) [nm], fun x W W' h hE => StR.ext h hE⟩]
        [true, false, true, false, false, true] (by kernel_rfl) (by kernel_rfl) rfl (fun _ _ d _ _ h => by cases d <;> exact h) ?_
      simp only [List.take_succ_cons, List.take_zero, pickO, List.getElem?_cons_zero, List.getElem?_cons_succ]
      refine can_mem _ rfl (by go_simp) (fun W hW hG K hK => ?_) (fun K zz0 hK => ?_)
      · go_simp
        exact hK (some ⟨W.heap.size, 0, none⟩, 0) _ ((Upd.refl (fun _ => False) W).alloc _) (World.ownsRow_lit (base := w.heap.size) (e := 9) (size := 1) W #[] 0 (Nat.le_trans HZ.out.size hW.size) (by unfold maxLen; omega) (by simp))
      refine hK _ ?_; clear hK K
      dsimp only
      refine can_pure0 rfl (fun K hK => ?_); go_simp; refine hK _ ?_; clear hK K
      obtain ⟨iS, hi, hz0, hz1, hz2⟩ := info_parts infoS
      refine can_mem _ rfl (by go_simp) (fun W hW hG K hK => ?_) (fun K zz2 hK => ?_)
      · have g0 := hG _ (List.mem_singleton.2 rfl) (by show (0 : Nat) ∈ _; decide)
        have hsl := SlR.of_own (own_kept (own_kept HF.out HZ.out (fun _ _ h => h)) hW (fun _ _ h => h))
        refine step_append_new _ (.tmp 16) (.tmp 17) 22 rfl w.heap.size 9 iS (.string ⟨#[]⟩) 1 16 Tryz.underlying22 hi hz0 hz1 hz2 rfl (by decide) _ rfl g0 _ _ l.length _ rfl hsl (strs_one _) (by unfold maxLen; omega) (by omega) (Nat.le_trans HZ.out.size hW.size) ?_
        intro v' w' hE4 hO4
        obtain ⟨p4, c4, rfl⟩ := own_shape hO4
        exact hK (p4, c4) _ hE4 hO4
      refine hK _ ?_; clear hK K
      dsimp only
      iterate 2 (refine can_pure0 rfl (fun K hK => ?_); go_simp; refine hK _ ?_; clear hK K)
      refine can_mem _ rfl (by go_simp) (fun W hW hG K hK => ?_) (fun K zz5 hK => ?_)
      · go_simp
        exact hK (some ⟨W.heap.size, 0, none⟩, 1) _ ((Upd.refl (fun _ => False) W).alloc _) (SlR.weaken (SlR.of_own (World.ownsRow_lit (base := w.heap.size) (e := 9) (size := 1) W #[.string nm] 1 (Nat.le_trans HZ.out.size hW.size) (by unfold maxLen; omega) (by simp))) (fun k hk => by injection hk with hk; rw [← hk]; exact Nat.le_trans HZ.out.size hW.size))
      refine hK _ ?_; clear hK K
      dsimp only
      refine can_end (fun w8 hW hG => ?_)
      have g2 := hG _ (List.mem_append_left _ (List.mem_append_right _ (List.mem_singleton.2 rfl)))
      have g5 := hG _ (List.mem_append_right _ (List.mem_singleton.2 rfl))
      dsimp only at g2 g5
      have hW8 : Hid (Ext w w8) := Lib.hid (HZ.out.trans hW)
      have HB8 := Lib.hid (hW.heap HB.out (fun h => h))
      clear hG hW
      refine mix_two (fun K hK => ?_)
      rw [if_pos (by go_simp)]
      refine step_append_sl _ (.tmp 18) (.tmp 21) 22 rfl w.heap.size 9 iS (.string ⟨#[]⟩) 1 16 Tryz.underlying22 hi hz0 hz1 hz2 rfl (by decide) (.slice zz2.1 l.length zz2.2) l.length _ rfl g2 (fun j => w.heap.size ≤ j) (.slice zz5.1 1 zz5.2) 1 _ rfl g5 (strs_one _) (by unfold maxLen; omega) (by omega) hW8.out.size ?_
      intro v7 w9 hG7
      refine hK _ _ ?_; clear hK K
      refine mix_two (fun K hK => ?_); go_simp; refine hK _ _ ?_; clear hK K
      simp only [wpMix]
      have hW9 : Hid (Ext w w9) := Lib.hid (hW8.out.trans' hG7.upd (fun j hj h => absurd (g2.lt j h).1 (by omega)))
      have HB9 : Hid (w9.heap[w.heap.size]? = some (.cells #[.string nm, .string ⟨#[]⟩, .slice a L.length cap] 25 (0, 0))) := Lib.hid (hG7.upd.heap HB8.out (fun h => HNB.out w8 _ _ _ g2 HB8.out h))
      have HF9 : Hid (OwS base w9 v7 (l ++ [nm])) := Lib.hid (by
        have h1 := hG7.own
        have h2 : (l ++ [nm]).length = l.length + 1 := by simp
        have h3 : (l ++ [nm]).map Value.string = l.map Value.string ++ [nm].map Value.string := by simp
        unfold OwS
        rw [h2, h3]
        exact own_base h1 HBW.out)
      obtain ⟨fa9, fc9, hv7⟩ := own_shape HF9.out
      rw [List.length_append, List.length_singleton] at hv7
      subst hv7
      clear hG7 g2 g5 hW8 HB8 HZ HB xf0 hi hz0 hz1 hz2
      have c2 := cellRow HB9.out 2 (.slice a L.length cap) rfl
      go_wp2_with fail
      clear c2
      go_loopg [0, 5] L.length (fun gk lv iv wr => ∃ k : Nat, iv = .int .i64 (k : Int) ∧ gk = L.length - k ∧ k ≤ L.length ∧ Hid (OwS base wr lv (aFold (l ++ [nm]) ((L.take k).flatMap opN))) ∧ Hid (Ext w wr) ∧ Hid (wr.heap[w.heap.size]? = some (.cells #[.string nm, .string ⟨#[]⟩, .slice a L.length cap] 25 (0, 0))))
      case atStart => exact ⟨0, rfl, rfl, Nat.zero_le _, HF9, hW9, HB9⟩
      case round =>
        obtain ⟨k, rfl, rfl, hk, HFk, HE, HBr⟩ := hrel
        have c2 := cellRow HBr.out 2 (.slice a L.length cap) rfl
        by_cases hlt : k < L.length
        · obtain ⟨g, off, rfl, _, hat⟩ := (HTL.out.ext HE.out).at_ (by omega)
          obtain ⟨ka, kc, q0, q1, q2, hkid⟩ := hat k hlt
          have z0 : (0 : Int) ≤ (k : Int) := by omega
          have z1 : (k : Int) < (L.length : Int) := by omega
          have z2 : decide ((k : Int) < (L.length : Int)) = true := decide_eq_true z1
          have z2' : decide (k < L.length) = true := decide_eq_true hlt
          have hmem := tg_mem L k hlt
          have hrm := flat_room opN opN_len L k hlt
          have hln := aFold_len ((L.take k).flatMap opN) (l ++ [nm])
          have hl0 := HL0.out
          have hsn := flat_snoc opN L k hlt
          have HIX := Lib.hid (HIH.out (tg L k) hmem _ _ _ T wr ⟨ka, kc, rfl, hkid⟩ HFk.out (Nat.le_trans HBW.out HE.out.size) (by have := HR0.out; omega))
          dsimp only [tV] at HIX
          rw [← aFold_append, ← hsn] at HIX
          obtain ⟨x, hx⟩ : ∃ x, tg L k = x := ⟨_, rfl⟩
          rw [hx] at q0 q1 q2 HIX
          rw [← Nat.add_assoc] at q1 q2
          obtain ⟨fa, fc, hlv⟩ := own_shape HFk.out
          subst hlv
          clear hmem hrm hln hl0 hsn hx hat hkid
          go_wp2_with fail
          refine HIX.out.mono ?_
          rintro e w8 ⟨r, rfl, hr, hw8⟩
          have HE8 := Lib.hid (HE.out.trans hw8)
          have HB8 := Lib.hid (hw8.heap HBr.out (fun h => h))
          have HFr := Lib.hid (hr : OwS base w8 r (aFold (l ++ [nm]) ((L.take (k + 1)).flatMap opN)))
          clear hr hw8 c2 q0 q1 q2 HIX
          go_wp2_with fail
          go_roundg (L.length - (k + 1))
          case measure => omega
          case rel => exact ⟨k + 1, by go_num, rfl, by omega, HFr, HE8, HB8⟩
        · obtain rfl : k = L.length := by omega
          have z2 : decide ((L.length : Int) < (L.length : Int)) = false := decide_eq_false (by omega)
          have HFL := HFk.out
          rw [List.take_length] at HFL
          have HFQ := Lib.hid HFL
          clear HFL
          go_wp2_with fail
          go_ret
          rw [HOPN.out]
          exact ⟨_, rfl, HFQ.out, HE.out⟩
  · obtain ⟨e1, e2, e3, e4⟩ := nonempty_t so (Nat.pos_of_ne_zero hs0)
    have HOPN : Hid (aFold l (opN (.mk nm so L)) = aFold l (L.flatMap opN)) := Lib.hid (by
      rw [opN_mk, if_neg (fun e => hs0 (by rw [e]; rfl))]; rfl)
    have HL0 : Hid (l.length ≤ l.length + 1) := Lib.hid (Nat.le_succ _)
    go_enter Tryz.func50, Tryz.ntmps50
    go_wp2_with fail
    clear c0 c1 c2 e1 e2 e3 e4
    go_loopg [0, 5] L.length (fun gk lv iv wr => ∃ k : Nat, iv = .int .i64 (k : Int) ∧ gk = L.length - k ∧ k ≤ L.length ∧ Hid (OwS base wr lv (aFold (l) ((L.take k).flatMap opN))) ∧ Hid (Ext w wr) ∧ Hid (wr.heap[w.heap.size]? = some (.cells #[.string nm, .string so, .slice a L.length cap] 25 (0, 0))))
    case atStart => exact ⟨0, rfl, rfl, Nat.zero_le _, (Lib.hid (own_kept HF.out HZ.out (fun _ _ h => h)) : Hid (OwS base _ (.slice fa l.length fc) l)), HZ, HB⟩
    case round =>
      obtain ⟨k, rfl, rfl, hk, HFk, HE, HBr⟩ := hrel
      have c2 := cellRow HBr.out 2 (.slice a L.length cap) rfl
      by_cases hlt : k < L.length
      · obtain ⟨g, off, rfl, _, hat⟩ := (HTL.out.ext HE.out).at_ (by omega)
        obtain ⟨ka, kc, q0, q1, q2, hkid⟩ := hat k hlt
        have z0 : (0 : Int) ≤ (k : Int) := by omega
        have z1 : (k : Int) < (L.length : Int) := by omega
        have z2 : decide ((k : Int) < (L.length : Int)) = true := decide_eq_true z1
        have z2' : decide (k < L.length) = true := decide_eq_true hlt
        have hmem := tg_mem L k hlt
        have hrm := flat_room opN opN_len L k hlt
        have hln := aFold_len ((L.take k).flatMap opN) (l)
        have hl0 := HL0.out
        have hsn := flat_snoc opN L k hlt
        have HIX := Lib.hid (HIH.out (tg L k) hmem _ _ _ T wr ⟨ka, kc, rfl, hkid⟩ HFk.out (Nat.le_trans HBW.out HE.out.size) (by have := HR0.out; omega))
        dsimp only [tV] at HIX
        rw [← aFold_append, ← hsn] at HIX
        obtain ⟨x, hx⟩ : ∃ x, tg L k = x := ⟨_, rfl⟩
        rw [hx] at q0 q1 q2 HIX
        rw [← Nat.add_assoc] at q1 q2
        obtain ⟨fa, fc, hlv⟩ := own_shape HFk.out
        subst hlv
        clear hmem hrm hln hl0 hsn hx hat hkid
        go_wp2_with fail
        refine HIX.out.mono ?_
        rintro e w8 ⟨r, rfl, hr, hw8⟩
        have HE8 := Lib.hid (HE.out.trans hw8)
        have HB8 := Lib.hid (hw8.heap HBr.out (fun h => h))
        have HFr := Lib.hid (hr : OwS base w8 r (aFold (l) ((L.take (k + 1)).flatMap opN)))
        clear hr hw8 c2 q0 q1 q2 HIX
        go_wp2_with fail
        go_roundg (L.length - (k + 1))
        case measure => omega
        case rel => exact ⟨k + 1, by go_num, rfl, by omega, HFr, HE8, HB8⟩
      · obtain rfl : k = L.length := by omega
        have z2 : decide ((L.length : Int) < (L.length : Int)) = false := decide_eq_false (by omega)
        have HFL := HFk.out
        rw [List.take_length] at HFL
        have HFQ := Lib.hid HFL
        clear HFL
        go_wp2_with fail
        go_ret
        rw [HOPN.out]
        exact ⟨_, rfl, HFQ.out, HE.out⟩

end Go.Proofs.YtiimccogojkldaaGreatDoor

/- RuleOps of the reference. -/
namespace Go.Proofs.YtiimccogojkldaaGreatDoor
open Go.RowKit Go.Hw Go
set_option linter.unusedVariables false
set_option linter.unusedSimpArgs false

open Tm
theorem flat_le {β : Type} (f : Tm → List β) (hf : ∀ t, (f t).length ≤ t.size) : ∀ M : List Tm, (M.flatMap f).length ≤ sizes M
  | [] => by simp [sizes]
  | a :: M => by
    have := hf a
    have := flat_le f hf M
    simp only [List.flatMap_cons, List.length_append, sizes]; omega
theorem ops_snoc (L : List Rl) (k : Nat) (h : k < L.length) : (flR (L.take (k + 1))).flatMap opN = (flR (L.take k)).flatMap opN ++ (opN (rg L k).1 ++ opN (rg L k).2) := by
  rw [rg_snoc L k h, flR_append, List.flatMap_append]
  congr 1
  show [(rg L k).1, (rg L k).2].flatMap opN = _
  simp
theorem own_block {w : World} {b : Nat} {e : TypeId} {size g n cap : Nat} {xs : List Value} (h : w.ownsRow b e size (.slice (some ⟨g, 0, none⟩) n cap) n xs) : ∃ cur, w.heap[g]? = some (.cells cur e (0, 0)) := by
  obtain ⟨_, ⟨e0, _⟩ | ⟨g', cap', cur, e0, _, h4, _⟩⟩ := h
  · cases e0
  · injection e0 with e1 e2 e3
    injection e1 with e1
    injection e1 with e1
    subst e1
    exact ⟨cur, h4⟩
theorem own_set {w : World} {b : Nat} {e : TypeId} {g cap n : Nat} {xs : List Value} (h : w.ownsRow b e 1 (.slice (some ⟨g, 0, none⟩) n cap) n xs) (j : Nat) (u : Value) (hj : j < n) :
    (w.setCell ⟨g, j, none⟩ u).ownsRow b e 1 (.slice (some ⟨g, 0, none⟩) n cap) n (xs.set j u) := by
  obtain ⟨h1, ⟨e0, _⟩ | ⟨g', cap', cur, e0, h3, h4, h5, h6, h7, h8⟩⟩ := h
  · cases e0
  · injection e0 with e1 e2 e3
    injection e1 with e1
    injection e1 with e1
    subst e1; subst e3
    refine ⟨by rw [List.length_set]; exact h1, .inr ⟨g, cap, _, rfl, h3, setBlock h4 j u, h5, h6, by rw [Array.size_setIfInBounds]; exact h7, ?_⟩⟩
    rw [← h8, Array.toList_setIfInBounds, List.take_set]
abbrev sV (l : List By) : List Value := l.map Value.string
theorem sV_set (l : List By) (j : Nat) (s : By) : (sV l).set j (.string s) = sV (l.set j s) := by rw [sV, sV, List.map_set]
theorem own_swap {w : World} {b g c n : Nat} {A R : List By} {s p : By} {k : Nat} (h : w.ownsRow b 9 1 (.slice (some ⟨g, 0, none⟩) n c) n (sV (insS A s (k + 1) R))) (hk : k + 1 < n) (hs : ((insS A s (k + 1) R).set k s).set (k + 1) p = insS A s k R) :
    ((w.setCell ⟨g, k, none⟩ (.string s)).setCell ⟨g, k + 1, none⟩ (.string p)).ownsRow b 9 1 (.slice (some ⟨g, 0, none⟩) n c) n (sV (insS A s k R)) ∧
    ((w.setCell ⟨g, k + 1, none⟩ (.string p)).setCell ⟨g, k, none⟩ (.string s)).ownsRow b 9 1 (.slice (some ⟨g, 0, none⟩) n c) n (sV (insS A s k R)) := by
  have h1 := own_set (own_set h k (.string s) (by omega)) (k + 1) (.string p) hk
  have h2 := own_set (own_set h (k + 1) (.string p) hk) k (.string s) (by omega)
  rw [sV_set, sV_set, hs] at h1
  rw [sV_set, sV_set, List.set_comm _ _ (by omega), hs] at h2
  exact ⟨h1, h2⟩
set_option maxRecDepth 100000 in
set_option maxHeartbeats 2000000 in
theorem ruleops_x (L : List Rl) (lv : Value) (w : World) (hR : RuR (fun k => k < w.heap.size) w L lv) (hl : L.length ≤ 1000) (hsz : sizes (flR L) ≤ 50000) :
    Calls Tryz.prog 18 #[lv] w fun e w' => ∃ r, e = .returned r ∧ OwS w.heap.size w' r (sFoldO [] ((flR L).flatMap opN)) ∧ Ext w w' := by
  obtain ⟨la, lc, rfl⟩ := hR.shape
  have HR := Lib.hid hR
  have HSS := Lib.hid hsz
  have HO0 : Hid (OwS w.heap.size w (.slice none 0 0) (aFold [] ((flR (L.take 0)).flatMap opN))) := Lib.hid ⟨rfl, .inl ⟨rfl, rfl⟩⟩
  obtain ⟨SF, hSF⟩ : ∃ Y, sFoldO [] ((flR L).flatMap opN) = Y := ⟨_, rfl⟩
  have HSF := Lib.hid hSF
  rw [hSF]
  clear hR hsz hSF
  go_enter Tryz.func18, Tryz.ntmps18
  go_wp2_with fail
  go_loopg [3, 4] L.length (fun gk ov iv wr => ∃ k : Nat, iv = .int .i64 (k : Int) ∧ gk = L.length - k ∧ k ≤ L.length ∧ Hid (OwS w.heap.size wr ov (aFold [] ((flR (L.take k)).flatMap opN))) ∧ Hid (Ext w wr))
  case atStart => exact ⟨0, rfl, rfl, Nat.zero_le _, HO0, Lib.hid (Upd.refl _ _)⟩
  case round =>
    clear HO0
    obtain ⟨k, rfl, rfl, hk, HOW, HE⟩ := hrel
    by_cases hlt : k < L.length
    · obtain ⟨g, off, hga, _, hat⟩ := (HR.out.ext HE.out).at_ (by omega)
      subst hga
      obtain ⟨xa, xc, ya, yc, q0, q1, q2, q3, q4, q5, hx, hy⟩ := hat k hlt
      have z0 : (0 : Int) ≤ (k : Int) := by omega
      have z1 : (k : Int) < (L.length : Int) := by omega
      have z2 : decide ((k : Int) < (L.length : Int)) = true := decide_eq_true z1
      have z2' : decide (k < L.length) = true := decide_eq_true hlt
      have hs0 := HSS.out
      have hs1 := flR_sizes L k hlt
      have hs2 := flR_sizes_le L (k + 1)
      have hs3 := aFold_len ((flR (L.take k)).flatMap opN) []
      have hs4 := flat_le opN opN_len (flR (L.take k))
      have hsn := ops_snoc L k hlt
      rw [List.length_nil] at hs3
      obtain ⟨A0, hA0⟩ : ∃ A0, aFold [] ((flR (L.take k)).flatMap opN) = A0 := ⟨_, rfl⟩
      have hA2 : aFold [] ((flR (L.take (k + 1))).flatMap opN) = aFold (aFold A0 (opN (rg L k).1)) (opN (rg L k).2) := by rw [hsn, aFold_append, aFold_append, hA0]
      rw [hA0] at HOW hs3
      have hs5 := aFold_len (opN (rg L k).1) A0
      have hs6 := opN_len (rg L k).1
      have hws := HE.out.size
      obtain ⟨oa, oc, hov⟩ := own_shape HOW.out
      subst hov
      have HC1 := Lib.hid (fun W (hW : Ext wr W) => ropsO_x w.heap.size (rg L k).1 A0 (.slice oa A0.length oc) _ _ W ⟨xa, xc, rfl, hx.ext hW⟩ (own_kept HOW.out hW (fun _ _ h => h)) (Nat.le_trans hws hW.size) (by omega))
      have HC2 := Lib.hid (fun W v (hW : Ext wr W) (hv : OwS w.heap.size W v (aFold A0 (opN (rg L k).1))) => ropsO_x w.heap.size (rg L k).2 (aFold A0 (opN (rg L k).1)) v _ _ W ⟨ya, yc, rfl, hy.ext hW⟩ hv (Nat.le_trans hws hW.size) (by omega))
      have HA2 := Lib.hid hA2
      obtain ⟨⟨x, y⟩, hxy⟩ : ∃ r, rg L k = r := ⟨_, rfl⟩
      rw [hxy] at q0 q1 q2 q3 q4 q5 HC1 HC2 HA2
      dsimp only [tV] at q0 q1 q2 q3 q4 q5 HC1 HC2 HA2
      obtain ⟨A1, hA1⟩ : ∃ A1, aFold A0 (opN x) = A1 := ⟨_, rfl⟩
      rw [hA1] at HC1 HC2 HA2
      obtain ⟨A2, hA2'⟩ : ∃ A2, aFold A1 (opN y) = A2 := ⟨_, rfl⟩
      rw [hA2'] at HC2 HA2
      have xq0 := fun x : XW wr => x.ext.cell q0 (fun h => h)
      have xq1 := fun x : XW wr => x.ext.cell q1 (fun h => h)
      have xq2 := fun x : XW wr => x.ext.cell q2 (fun h => h)
      have xq3 := fun x : XW wr => x.ext.cell q3 (fun h => h)
      have xq4 := fun x : XW wr => x.ext.cell q4 (fun h => h)
      have xq5 := fun x : XW wr => x.ext.cell q5 (fun h => h)
      clear q0 q1 q2 q3 q4 q5 hat hx hy hxy hs0 hs1 hs2 hs3 hs4 hsn hA0 hA2 hs5 hs6 hws hA1 hA2'
      go_wp2_with fail
      refine wp_region_par (α := Option Addr × Nat) 13 [(13, 2)] [[], [], [], [1, 2], [1, 2, 3], [1, 2, 3, 4], [0, 1, 2, 3, 4, 5], [], [], [7, 8], [7, 8, 9], [7, 8, 9, 10], [0, 1, 2, 3, 4, 5, 6, 7, 8, 9, 10, 11], [0, 1, 2, 3, 4, 5, 6, 7, 8, 9, 10, 11, 12]]
        [none, none, none, none, none, none, some ⟨fun x => .slice x.1 A1.length x.2, fun x W => OwS w.heap.size W (.slice x.1 A1.length x.2) A1, fun x W W' h hE => own_kept h hE (fun _ _ h => h)⟩, none, none, none, none, none, some ⟨fun x => .slice x.1 A2.length x.2, fun x W => OwS w.heap.size W (.slice x.1 A2.length x.2) A2, fun x W W' h hE => own_kept h hE (fun _ _ h => h)⟩] [false, false, false, false, false, false, true, false, false, false, false, false, true] (by kernel_rfl) (by kernel_rfl) rfl (fun _ _ d _ _ h => by cases d <;> exact h) ?_
      simp only [List.take_succ_cons, List.take_zero, pickO, List.getElem?_cons_zero, List.getElem?_cons_succ]
      iterate 6 (refine can_pure0 rfl (fun K hK => ?_); go_simp; refine hK _ ?_; clear hK K)
      refine can_mem _ rfl (by go_simp) (fun W hW hG K hK => ?_) (fun K z6 hK => ?_)
      · go_simp
        refine (HC1.out W hW).mono ?_
        rintro e w' ⟨vv, rfl, hsl, h⟩
        obtain ⟨va, vc, hvv⟩ := own_shape hsl
        subst hvv
        exact hK (va, vc) w' h hsl
      refine hK _ ?_; clear hK K
      dsimp only
      iterate 5 (refine can_pure0 rfl (fun K hK => ?_); go_simp; refine hK _ ?_; clear hK K)
      refine can_mem _ rfl (by go_simp) (fun W hW hG K hK => ?_) (fun K z12 hK => ?_)
      · have g6 := hG _ (List.mem_singleton.2 rfl) (by show (6 : Nat) ∈ _; decide)
        go_simp
        refine (HC2.out W _ hW g6).mono ?_
        rintro e w' ⟨vv, rfl, hsl, h⟩
        obtain ⟨va, vc, hvv⟩ := own_shape hsl
        subst hvv
        exact hK (va, vc) w' h hsl
      refine hK _ ?_; clear hK K
      dsimp only
      refine can_end (fun w6 hx6 hG => ?_)
      have g12 := hG _ (List.mem_append_right _ (List.mem_singleton.2 rfl))
      dsimp only at g12
      have HE6 := Lib.hid (HE.out.trans hx6)
      have HO6 : Hid (OwS w.heap.size w6 (.slice z12.1 A2.length z12.2) A2) := Lib.hid g12
      clear hG hx6 g12 HE xq0 xq1 xq2 xq3 xq4 xq5 HC1 HC2 HOW
      refine mix_two ?_; intro K hK; go_simp; refine hK _ _ ?_; clear hK K
      simp only [wpMix]
      go_wp2_with fail
      go_roundg (L.length - (k + 1))
      case measure => omega
      case rel => exact ⟨k + 1, by go_num, rfl, by omega, by rw [HA2.out]; exact HO6, HE6⟩
    · obtain rfl : k = L.length := by omega
      have z2 : decide ((L.length : Int) < (L.length : Int)) = false := decide_eq_false (by omega)
      have htl : L.take L.length = L := List.take_length
      rw [htl] at HOW
      have hXl : (aFold [] ((flR L).flatMap opN)).length ≤ 50000 := by
        have h1 := aFold_len ((flR L).flatMap opN) []
        have h2 := flat_le opN opN_len (flR L)
        have h3 := HSS.out
        rw [List.length_nil] at h1
        omega
      have HDX : Hid (Dif (aFold [] ((flR L).flatMap opN))) := Lib.hid (aFold_dif List.Pairwise.nil)
      have HFIN : Hid (∀ Y : List By, Y.Perm (aFold [] ((flR L).flatMap opN)) → Ris Y → sFoldO [] ((flR L).flatMap opN) = Y) := Lib.hid (fun Y hY hr => ris_ext (sFoldO_ris List.Pairwise.nil) hr (fun s => by rw [hY.mem_iff, mem_sFoldO, mem_aFold]))
      obtain ⟨X, hX⟩ : ∃ X, aFold [] ((flR L).flatMap opN) = X := ⟨_, rfl⟩
      rw [hX] at HOW hXl HDX HFIN
      clear hX htl HSS
      rw [HSF.out] at HFIN
      obtain ⟨oa, oc, hov⟩ := own_shape HOW.out
      subst hov
      obtain ⟨n, hn⟩ : ∃ n, X.length = n := ⟨_, rfl⟩
      have HN := Lib.hid hn
      have HO0 : Hid (wr.ownsRow w.heap.size 9 1 (.slice oa n oc) n (sV ([] ++ X))) := Lib.hid (by rw [← hn]; exact HOW.out)
      rw [hn] at hXl ⊢
      clear hn HOW
      go_wp2_with fail
      clear z2
      obtain ⟨wa, hwa⟩ : ∃ wa, wa = wr := ⟨_, rfl⟩
      have HEA : Hid (Ext w wr) := Lib.hid HE.out
      have HOA : Hid (wr.ownsRow w.heap.size 9 1 (.slice oa n oc) n (sV ([] ++ X))) := Lib.hid HO0.out
      rw [← hwa] at HE HO0
      clear hwa
      go_loopg [5] n (fun gk iv wr => ∃ (i : Nat) (A R : List By), iv = .int .i64 (i : Int) ∧ gk = n - i ∧ A.length = i ∧ Hid (Ext w wr) ∧ Hid (wr.ownsRow w.heap.size 9 1 (.slice oa n oc) n (sV (A ++ R))) ∧ Hid ((A ++ R).Perm X ∧ Ris A))
      case atStart => exact ⟨0, [], X, rfl, rfl, rfl, HEA, HOA, Lib.hid ⟨List.Perm.refl _, List.Pairwise.nil⟩⟩
      case round =>
        clear HEA HOA
        obtain ⟨i, A, R, rfl, rfl, hAl, HE1, HO1, HP1⟩ := hrel
        have hlen := HP1.out.1.length_eq
        rw [HN.out, List.length_append] at hlen
        by_cases hlt : i < n
        · obtain ⟨s, R, rfl⟩ : ∃ s R', R = s :: R' := by
            cases R with
            | nil => simp only [List.length_nil] at hlen; omega
            | cons s R => exact ⟨s, R, rfl⟩
          obtain ⟨g, c5, hv5⟩ := own_some HO1.out (by omega)
          injection hv5 with e1 e2 e3
          subst e1
          obtain ⟨g', c', hv', hbg, hgl, _⟩ := ownAt HO1.out (by omega)
          injection hv' with e1 e2' e3'
          injection e1 with e1
          injection e1 with e1
          subst e1
          have HI0 : Hid (wr.ownsRow w.heap.size 9 1 (.slice (some ⟨g, 0, none⟩) n oc) n (sV (insS A s i R))) := Lib.hid (by rw [← hAl, insS_end]; exact HO1.out)
          have HD0 : Hid (∀ a ∈ A.drop i, blt s a = true) := Lib.hid (fun a ha => by rw [List.drop_of_length_le (by omega)] at ha; cases ha)
          have HNE : Hid (∀ a ∈ A, a ≠ s) := Lib.hid (fun a ha => by
            have h1 : Dif (A ++ s :: R) := (HP1.out.1.pairwise_iff (fun {x y} (e : x ≠ y) => e.symm)).2 HDX.out
            exact (List.pairwise_append.1 h1).2.2 a ha s (List.mem_cons_self ..))
          have HBG := Lib.hid hbg
          have HAL := Lib.hid hAl
          have z0 : (0 : Int) ≤ (i : Int) := by omega
          have z1 : (i : Int) < (n : Int) := by omega
          have z2 : decide ((i : Int) < (n : Int)) = true := decide_eq_true z1
          have z2' : decide (i < n) = true := decide_eq_true hlt
          clear hgl e2 e3 e2' e3' hbg hAl HO1
          go_wp2_with fail
          go_loopg [6] i (fun gk kv ws => ∃ k : Nat, kv = .int .i64 (k : Int) ∧ gk = 0 + k ∧ k ≤ i ∧ Hid (Ext w ws) ∧ Hid (ws.ownsRow w.heap.size 9 1 (.slice (some ⟨g, 0, none⟩) n oc) n (sV (insS A s k R))) ∧ Hid (∀ a ∈ A.drop k, blt s a = true))
          case atStart => exact ⟨i, rfl, (Nat.zero_add i).symm, Nat.le_refl _, HE1, HI0, HD0⟩
          case round =>
            clear HE1 HI0 HD0
            obtain ⟨k, rfl, rfl, hk, HE6, HO6, HD6⟩ := hrel
            cases k with
            | zero =>
              have HO7 : Hid (wr.ownsRow w.heap.size 9 1 (.slice (some ⟨g, 0, none⟩) n oc) n (sV ((A.take 0 ++ s :: A.drop 0) ++ R))) := Lib.hid (by
                have h := HO6.out
                unfold insS at h
                rw [List.append_assoc, List.cons_append]
                exact h)
              have HP7 : Hid (((A.take 0 ++ s :: A.drop 0) ++ R).Perm X ∧ Ris (A.take 0 ++ s :: A.drop 0)) := Lib.hid ⟨by
                have h := insS_perm A s 0 R
                unfold insS at h
                rw [List.append_assoc, List.cons_append]
                exact h.trans HP1.out.1, insS_sorted HP1.out.2 HNE.out (Nat.zero_le _) HD6.out (.inl rfl)⟩
              have hl7 : (A.take 0 ++ s :: A.drop 0).length = i + 1 := by have := HAL.out; simp; omega
              clear HO6 HD6
              go_wp2_with fail
              go_quiet (fail)
              go_wp2_with fail
              go_roundg (n - (i + 1))
              case measure => omega
              case rel => exact ⟨i + 1, A.take 0 ++ s :: A.drop 0, R, by go_num, rfl, hl7, Lib.hid (HE6.out.drewN' _), HO7, HP7⟩
            | succ k =>
              have hkA : k + 1 ≤ A.length := by rw [HAL.out]; exact hk
              have hln : (insS A s (k + 1) R).length = n := by rw [insS_len _ _ _ _ hkA]; simp only [List.length_cons] at hlen; omega
              obtain ⟨cur, hcur⟩ := own_block HO6.out
              obtain ⟨g', c', hv', _, _, _, hcell, _⟩ := ownAt HO6.out (by omega)
              injection hv' with e1 e2' e3'
              injection e1 with e1
              injection e1 with e1
              subst e1
              have hgt : ∀ j, j < n → wr.cell? ⟨g, j, none⟩ = some (.string ((insS A s (k + 1) R).getD j nul)) := fun j hj => by
                rw [hcell j (by omega), sV, List.getElem?_map, List.getElem?_eq_getElem (by rw [hln]; exact hj), List.getD_eq_getElem?_getD, List.getElem?_eq_getElem (by rw [hln]; exact hj)]
                rfl
              have c0 := hgt (k + 1) (by omega)
              have c1 := hgt k (by omega)
              rw [insS_at A s (k + 1) R hkA] at c0
              rw [insS_pred A s k R hkA] at c1
              have HST := Lib.hid (insS_step A s k R hkA)
              have HUP := Lib.hid (fun (h : blt s (A.getD k nul) = true) => insS_up hkA HD6.out h)
              have HEN := Lib.hid (fun (h : blt s (A.getD k nul) = false) => insS_sorted (k := k + 1) HP1.out.2 HNE.out hkA HD6.out (.inr h))
              have hb := bless s (A.getD k nul)
              have i0' : (0 : Int) ≤ (k : Int) := by omega
              have i1' : (k : Int) + 1 < (n : Int) := by omega
              have i2' : (k : Int) < (n : Int) := by omega
              have i3' : decide ((0 : Int) < (k : Int) + 1) = true := decide_eq_true (by omega)
              have i4' : (0 : Int) ≤ (k : Int) + 1 := by omega
              have i5' : IntKind.i64.wrap ((k : Int) + 1 - 1) = (k : Int) := by rw [IntWalk.i64_in _ (by omega)]; omega
              have HB := Lib.hid hcur
              have ek : ((k + 1 : Nat) : Int) = (k : Int) + 1 := by omega
              clear hln hcur hcell hgt e2' e3'
              obtain ⟨B, hB⟩ : ∃ B, blt s (A.getD k nul) = B := ⟨_, rfl⟩
              rw [hB] at HUP HEN hb
              obtain ⟨p, hp⟩ : ∃ p, A.getD k nul = p := ⟨_, rfl⟩
              rw [hp] at c1 hb HST
              clear hB hp
              simp only [ek]
              clear ek
              cases B
              · have HSd := Lib.hid (HEN.out rfl)
                have HO7 : Hid (wr.ownsRow w.heap.size 9 1 (.slice (some ⟨g, 0, none⟩) n oc) n (sV ((A.take (k + 1) ++ s :: A.drop (k + 1)) ++ R))) := Lib.hid (by
                  have h := HO6.out
                  unfold insS at h
                  rw [List.append_assoc, List.cons_append]
                  exact h)
                have HP7 : Hid (((A.take (k + 1) ++ s :: A.drop (k + 1)) ++ R).Perm X ∧ Ris (A.take (k + 1) ++ s :: A.drop (k + 1))) := Lib.hid ⟨by
                  have h := insS_perm A s (k + 1) R
                  unfold insS at h
                  rw [List.append_assoc, List.cons_append]
                  exact h.trans HP1.out.1, HSd.out⟩
                have hl7 : (A.take (k + 1) ++ s :: A.drop (k + 1)).length = i + 1 := by have := HAL.out; simp; omega
                clear HUP HEN HST HB HO6 HD6
                go_wp2_with fail
                go_quiet (fail)
                go_wp2_with fail
                go_roundg (n - (i + 1))
                case measure => omega
                case rel => exact ⟨i + 1, A.take (k + 1) ++ s :: A.drop (k + 1), R, by go_num, rfl, hl7, Lib.hid (HE6.out.drewN' _), HO7, HP7⟩
              · have HD7 := Lib.hid (HUP.out rfl)
                clear HUP HEN
                go_wp2_with fail
                go_quiet (fail)
                generalize hwq : wr.drewN nq = wq at *
                have HE7 : Hid (Ext w wq) := Lib.hid (by rw [← hwq]; exact HE6.out.drewN' nq)
                have HO7 : Hid (wq.ownsRow w.heap.size 9 1 (.slice (some ⟨g, 0, none⟩) n oc) n (sV (insS A s (k + 1) R))) := Lib.hid (by rw [← hwq]; exact HO6.out)
                have hB6 : wq.heap[g]? = some (.cells cur 9 (0, 0)) := by rw [← hwq]; exact HB.out
                have d0 : wq.cell? ⟨g, k + 1, none⟩ = some (.string s) := by rw [← hwq]; exact c0
                have d1 : wq.cell? ⟨g, k, none⟩ = some (.string p) := by rw [← hwq]; exact c1
                clear hwq c0 c1 HE6 HO6 HB hb
                have m0 := frozenRow hB6 k
                have m1 := frozenRow hB6 (k + 1)
                clear hB6
                go_wp2_with fail
                go_region
                all_goals
                  go_wp2_with fail
                  have hO8 := own_swap HO7.out (by omega) HST.out
                  have hE8 : ∀ u v : Value, Ext w ((wq.setCell ⟨g, k, none⟩ u).setCell ⟨g, k + 1, none⟩ v) ∧ Ext w ((wq.setCell ⟨g, k + 1, none⟩ u).setCell ⟨g, k, none⟩ v) := fun u v => ⟨HE7.out.trans' (((Upd.refl (fun j => j = g) wq).setCell (p := ⟨g, k, none⟩) (.inl rfl) u).setCell (p := ⟨g, k + 1, none⟩) (.inl rfl) v) (fun j hj e => by have := HBG.out; omega), HE7.out.trans' (((Upd.refl (fun j => j = g) wq).setCell (p := ⟨g, k + 1, none⟩) (.inl rfl) u).setCell (p := ⟨g, k, none⟩) (.inl rfl) v) (fun j hj e => by have := HBG.out; omega)⟩
                  go_roundg k
                  case measure => omega
                  case rel => exact ⟨k, by go_num, by omega, by omega, Lib.hid (by first | exact (hE8 _ _).1 | exact (hE8 _ _).2 | exact (hE8 _ _).1.drew | exact (hE8 _ _).2.drew), Lib.hid (by first | exact hO8.1 | exact hO8.2), HD7⟩
        · have hi : A.length = n := by omega
          obtain rfl : i = n := by omega
          have hR0 : R = [] := List.eq_nil_of_length_eq_zero (by omega)
          subst hR0
          have z2 : decide ((i : Int) < (i : Int)) = false := decide_eq_false (by omega)
          have hYY := HP1.out
          rw [List.append_nil] at hYY HO1
          have HFY := Lib.hid (HFIN.out A hYY.1 hYY.2)
          have HOY : Hid (OwS w.heap.size wr (.slice oa i oc) A) := Lib.hid (by unfold OwS; rw [hi]; exact HO1.out)
          clear hYY hi HO1
          go_wp2_with fail
          go_ret
          rw [HFY.out]
          exact ⟨_, rfl, HOY.out, HE1.out⟩

end Go.Proofs.YtiimccogojkldaaGreatDoor
