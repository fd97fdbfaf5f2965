/- The texts I60 I61 Finds, one behind the other. -/
import Derived.Test.YtiimccogojkldaaGreatDoorZN
import Derived.Test.YtiimccogojkldaaGreatDoorZL
import Derived.Test.YtiimccogojkldaaGreatDoorZO
import Derived.Test.YtiimccogojkldaaGreatDoorZK
/- extend of the reference. -/
namespace Go.Proofs.YtiimccogojkldaaGreatDoor
open Go.RowKit Go.Hw Go
set_option linter.unusedVariables false
set_option linter.unusedSimpArgs false

open Tm
theorem lit_sl (W : World) (x : By) : SlR (fun _ => True) (W.alloc (.cells #[.string x] 9)) 1 (.slice (some ⟨W.heap.size, 0, none⟩) 1 1) 1 (sV [x]) :=
  (SlR.of_own (World.ownsRow_lit (base := W.heap.size) (e := 9) (size := 1) W #[.string x] 1 (Nat.le_refl _) (by unfold maxLen; omega) (by simp))).weaken (fun _ _ => trivial)
theorem snoc_str {base : Nat} {W : World} {v : Value} {b : List By} {x : By} (h : W.ownsRow base 9 1 v (b.length + 1) (sV b ++ sV [x])) : StR (fun j => j < W.heap.size) W v (b ++ [x]) := by
  have h2 : (b ++ [x]).length = b.length + 1 := by simp
  unfold StR
  rw [h2, List.map_append]
  exact (SlR.of_own h).weaken (fun j hj => own_lt h j hj)
def OwN (base : Nat) (W : World) (v : Value) (n : Nat) (l : List By) : Prop := W.ownsRow base 9 1 v n (sV l)
theorem exec_slice_from {P : Program} {o : Oper} {a : Act} (t : TypeId) (x l : Operand) (ho : o.op = .slice t x (some l) none none) (size : Nat) (ht : P.underlying t = some (.slice (P.elem t))) (hsz : ∀ w, (sizeOf (P.elem t)).run P w = .ok size w)
    (ad : Option Addr) (n cap : Nat) (hx : a.eval x = .slice ad n cap) (k : Nat) (kh : IntKind) (hh : a.eval l = .int kh (k : Int)) (hk : k ≤ n) (w : World) : (execOp a.eval o).run P w = .ok (.value (sliced ad k n cap size)) w := by
  unfold execOp
  have hr := run_slice_l (P := P) w t ad n cap ht kh (k : Int) (by omega) (by omega)
  simp only [hsz, Result.andThen_ok, Int.toNat_natCast] at hr
  simp only [ho, run_sliceAt_slice (P := P) w t _ _ _ _ ht, Sem.run_bind, Sem.run_pure, Result.andThen_ok, Option.map_some, Option.map_none, hx, hh, hr]
theorem ers_str {base : Nat} {W : World} {v : Value} {rest : List By} {k : Nat} (hk : k < rest.length) (h : W.ownsRow base 9 1 v (k + (rest.length - (k + 1))) (sV (rest.take k) ++ sV (rest.drop (k + 1)))) : StR (fun j => j < W.heap.size) W v (rest.eraseIdx k) := by
  have h1 : rest.eraseIdx k = rest.take k ++ rest.drop (k + 1) := List.eraseIdx_eq_take_drop_succ ..
  have h2 : (rest.eraseIdx k).length = k + (rest.length - (k + 1)) := by rw [h1, List.length_append, List.length_take, List.length_drop]; omega
  unfold StR
  rw [h2, h1, List.map_append]
  exact (SlR.of_own h).weaken (fun j hj => own_lt h j hj)
set_option maxRecDepth 100000 in
set_option maxHeartbeats 2000000 in
theorem extend_x (L : List Rl) (lv : Value) (w0 : World) (hR : RuR (fun k => k < w0.heap.size) w0 L lv) (hl : L.length ≤ 1000000) (hwf : (flR L).all (wf nmB) = true) : ∀ (n : Nat) (b rest : List By) (bv rv : Value) (w : World), Ext w0 w → rest.length = n → b.length + n ≤ 1000 → (∀ t ∈ flR L, ∀ s ∈ opN t, s ∈ b ++ rest) → StR (fun k => k < w.heap.size) w bv b → StR (fun k => k < w.heap.size) w rv rest →
    Calls Tryz.prog 53 #[bv, rv, lv] w fun e w' => ∃ r, e = .returned (.tuple #[r, .bool (searchP L n b rest).isSome]) ∧ (∃ a len cap, r = .slice a len cap) ∧ (∀ out, searchP L n b rest = some out → StR (fun _ => True) w' r out) ∧ Ext w w'
  | 0, b, rest, bv, rv, w => fun hE hn hb hkn hbv hrv => by
    have hr0 : rest = [] := List.eq_nil_of_length_eq_zero hn
    subst hr0
    obtain ⟨ra, rc, rfl⟩ := SlR.shape hrv
    rw [List.append_nil] at hkn
    have HFI := Lib.hid (rfirst_x b L bv lv (fun k => k < w.heap.size) w hbv ((hR.ext hE).weaken (fun k hk => Nat.lt_of_lt_of_le hk hE.size)) (fun k hk => hk) hl hwf (List.all_eq_true.2 fun t ht => knowsP_iff.2 (hkn t ht)) (by omega))
    have HV : Hid ((searchP L 0 b []).isSome = decide (firstI b L < 0)) := Lib.hid (by
      rw [firstI_neg]
      unfold searchP
      cases allDec b L <;> simp)
    have HV2 : Hid (∀ out, searchP L 0 b [] = some out → out = b) := Lib.hid (fun out h => by
      unfold searchP at h
      split at h
      · injection h with h; exact h.symm
      · cases h)
    have HBV := Lib.hid hbv
    obtain ⟨ba, bc, rfl⟩ := SlR.shape hbv
    obtain ⟨la, lc, rfl⟩ := hR.shape
    rw [HV.out]
    obtain ⟨X, hX⟩ : ∃ X, firstI b L = X := ⟨_, rfl⟩
    rw [hX] at HFI ⊢
    obtain ⟨SP, hSP⟩ : ∃ o, searchP L 0 b [] = o := ⟨_, rfl⟩
    rw [hSP] at HV2 ⊢
    clear hX hSP HV hE hn hb hkn hbv hrv hR hl hwf
    go_enter Tryz.func53, Tryz.ntmps53
    go_wp2_with fail
    refine HFI.out.mono ?_
    rintro e w5 ⟨rfl, hw5⟩
    have HE5 := Lib.hid hw5
    clear hw5 HFI
    go_wp2_with fail
    go_ret2
    exact ⟨_, rfl, ⟨_, _, _, rfl⟩, fun out h => by rw [HV2.out out h]; exact (SlR.kept HBV.out HE5.out (fun _ _ h => h)).weaken (fun _ _ => trivial), HE5.out⟩
  | n + 1, b, rest, bv, rv, w => fun hE hn hb hkn hbv hrv => by
    obtain ⟨ba, bc, rfl⟩ := SlR.shape hbv
    obtain ⟨ra, rc, rfl⟩ := SlR.shape hrv
    have hcap : rest.length ≤ rc := SlR.le_cap hrv rfl
    have HIH := Lib.hid (extend_x L lv w0 hR hl hwf n)
    obtain ⟨la, lc, rfl⟩ := hR.shape
    have HE0 := Lib.hid hE
    have HKN := Lib.hid hkn
    have HBV := Lib.hid hbv
    have HRV := Lib.hid hrv
    have HSP : Hid (searchP L (n + 1) b rest = (List.range (n + 1)).findSome? fun i => searchP L n (b ++ [rest.getD i nul]) (rest.eraseIdx i)) := Lib.hid (by rw [searchP])
    obtain ⟨SP, hSP⟩ : ∃ o, searchP L (n + 1) b rest = o := ⟨_, rfl⟩
    rw [hSP]
    have HSQ := Lib.hid hSP
    have hr1 : rest.length ≤ 1000 := by omega
    have hb1 : b.length ≤ 1000 := by omega
    have HBL := Lib.hid hb
    have t0 : ((rest.length : Int) == 0) = false := beq_eq_false_iff_ne.2 (by omega)
    have t1 : ¬ (rest.length : Int) = 0 := by omega
    have t2 : ¬ rest = [] := fun e => by rw [e] at hn; simp at hn
    have HN := Lib.hid hn
    clear hSP hE hkn hbv hrv hR hl hwf hn hb
    go_enter Tryz.func53, Tryz.ntmps53
    go_wp2_with fail
    clear t0 t1 t2
    go_loopg [8] rest.length (fun gk iv wr => ∃ k : Nat, iv = .int .i64 (k : Int) ∧ gk = rest.length - k ∧ k ≤ rest.length ∧ Hid (Ext w wr) ∧ Hid (∀ j, j < k → searchP L n (b ++ [rest.getD j nul]) (rest.eraseIdx j) = none))
    case atStart => exact ⟨0, rfl, rfl, Nat.zero_le _, Lib.hid (Upd.refl _ _), Lib.hid (fun j h => absurd h (Nat.not_lt_zero _))⟩
    case round =>
      obtain ⟨k, rfl, rfl, hk, HE, HM⟩ := hrel
      by_cases hlt : k < rest.length
      · have HPM := Lib.hid (step_perm b rest k hlt)
        have HLE : Hid ((rest.eraseIdx k).length = n) := Lib.hid (by rw [List.length_eraseIdx_of_lt hlt, HN.out]; rfl)
        have z0 : (0 : Int) ≤ (k : Int) := by omega
        have z1 : (k : Int) < (rest.length : Int) := by omega
        have z2 : decide ((k : Int) < (rest.length : Int)) = true := decide_eq_true z1
        have z2' : decide (k < rest.length) = true := decide_eq_true hlt
        have z3 : (k : Int) ≤ (rest.length : Int) := by omega
        have z4 : (k : Int) ≤ (rc : Int) := by omega
        have z5 : (k : Int) + 1 ≤ (rest.length : Int) := by omega
        have z6 : (0 : Int) ≤ (k : Int) + 1 := by omega
        have z7 : IntKind.i64.wrap ((k : Int) + 1) = ((k + 1 : Nat) : Int) := by rw [IntWalk.i64_in _ (by omega)]; omega
        have hsz1 : ∀ w, (sizeOf (Tryz.prog.elem 22)).run Tryz.prog w = .ok 1 w := fun _ => by kernel_rfl
        obtain ⟨sv, hsv⟩ : ∃ sv, sliced ra (k + 1) rest.length rc 1 = sv := ⟨_, rfl⟩
        have HSV : Hid (SlR (fun k => k < w.heap.size) w 1 sv (rest.length - (k + 1)) (sV (rest.drop (k + 1)))) := Lib.hid (by
          rw [← hsv]
          have h := SlR.from HRV.out rfl (k + 1) (by omega)
          rw [Nat.mul_one, ← List.map_drop] at h
          exact h)
        have hrfs := Upd.refl (fun _ => False) wr
        have HNX : Hid (searchP L n (b ++ [rest.getD k nul]) (rest.eraseIdx k) = none → ∀ j, j < k + 1 → searchP L n (b ++ [rest.getD j nul]) (rest.eraseIdx j) = none) := Lib.hid (fun h j hj => by
          rcases Nat.lt_succ_iff_lt_or_eq.1 hj with h5 | h5
          · exact HM.out j h5
          · rw [h5]; exact h)
        have HHT : Hid (∀ o, searchP L n (b ++ [rest.getD k nul]) (rest.eraseIdx k) = some o → SP = some o) := Lib.hid (fun o h => by
          rw [← HSQ.out, HSP.out]
          exact fs_hit _ o k HM.out h (n + 1) (by rw [← HN.out]; exact hlt))
        go_wp2_with fail
        obtain ⟨iS, hi, hz0, hz1, hz2⟩ := info_parts infoS
        have hnm : k + (rest.length - (k + 1)) ≤ 1000 := by omega
        refine wp_region_parF (α := Option Addr × Nat) 9 [] 9 [(9, 2), (10, 2)] [[], [], [], [1, 2], [0, 1, 2, 3], [], [], [6], [5, 6, 7], [0, 1, 2, 3, 4, 5, 6, 7, 8], [0, 1, 2, 3, 4, 5, 6, 7, 8, 9]]
          [some ⟨fun x => .slice x.1 0 0, fun x W => W.ownsRow w.heap.size 9 1 (.slice x.1 0 0) 0 [], fun x W W' h hE => own_kept h hE (fun _ _ h => h)⟩, none, none, none, some ⟨fun x => .slice x.1 k x.2, fun x W => OwN w.heap.size W (.slice x.1 k x.2) k (rest.take k), fun x W W' h hE => own_kept h hE (fun _ _ h => h)⟩, none, none, none, none]
          [true, false, false, false, true, false, false, false, false] (by kernel_rfl) (by kernel_rfl) rfl (fun _ _ d _ _ h => by cases d <;> exact h) ?_
        simp only [List.take_succ_cons, List.take_zero, pickO, List.getElem?_cons_zero, List.getElem?_cons_succ]
        refine can_mem _ rfl (by go_simp) (fun W hW hG K hK => ?_) (fun K zz0 hK => ?_)
        · go_simp
          exact hK (some ⟨W.heap.size, 0, none⟩, 0) _ ((Upd.refl (fun _ => False) W).alloc _) (World.ownsRow_lit (base := w.heap.size) (e := 9) (size := 1) W #[] 0 (Nat.le_trans HE.out.size hW.size) (by unfold maxLen; omega) (by simp))
        refine hK _ ?_; clear hK K
        dsimp only
        iterate 3 (refine can_pure0 rfl (fun K hK => ?_); go_simp; refine hK _ ?_; clear hK K)
        refine can_mem _ rfl (by go_simp) (fun W hW hG K hK => ?_) (fun K zz4 hK => ?_)
        · have g0 := hG _ (List.mem_singleton.2 rfl) (by show (0 : Nat) ∈ _; decide)
          have hsl : SlR (fun k => k < w.heap.size) W 1 (.slice ra k rc) k (sV (rest.take k)) := by
            have h := StR.to (SlR.kept HRV.out (HE.out.trans hW) (fun _ _ h => h)) (k := k) (by omega)
            unfold StR at h
            rw [List.length_take, Nat.min_eq_left (by omega)] at h
            exact h
          refine step_append_new _ (.tmp 26) (.tmp 29) 22 rfl w.heap.size 9 iS (.string ⟨#[]⟩) 1 16 Tryz.underlying22 hi hz0 hz1 hz2 rfl (by decide) _ rfl g0 _ _ k _ rfl hsl (strs_one _) (by unfold maxLen; omega) (by omega) (Nat.le_trans HE.out.size hW.size) ?_
          intro v' w' hE4 hO4
          obtain ⟨p4, c4, rfl⟩ := own_shape hO4
          exact hK (p4, c4) _ hE4 hO4
        refine hK _ ?_; clear hK K
        dsimp only
        iterate 3 (refine can_pure0 rfl (fun K hK => ?_); go_simp; refine hK _ ?_; clear hK K)
        refine can_pure0 rfl (fun K hK => ?_)
        rw [if_pos (by go_simp)]
        refine ⟨sv, fun x => ?_, ?_⟩
        · rw [← hsv]
          exact exec_slice_from 22 (.tmp 31) (.tmp 33) rfl 1 (by kernel_rfl) hsz1 ra rest.length rc rfl (k + 1) .i64 (by go_simp) (by omega) x.val
        refine hK _ ?_; clear hK K
        dsimp only
        refine can_end (fun w8 hW hG => ?_)
        have g4 := hG _ (List.mem_append_right _ (List.mem_singleton.2 rfl))
        dsimp only at g4
        have hW8 : Hid (Ext w w8) := Lib.hid (HE.out.trans hW)
        have HSV8 := Lib.hid (SlR.kept HSV.out hW8.out (fun _ _ h => h))
        clear hG hW
        refine mix_two ?_; intro K hK
        rw [if_pos (by go_simp)]
        refine step_append_sl _ (.tmp 30) (.tmp 34) 22 rfl w.heap.size 9 iS (.string ⟨#[]⟩) 1 16 Tryz.underlying22 hi hz0 hz1 hz2 rfl (by decide) (.slice zz4.1 k zz4.2) k _ rfl g4 _ sv (rest.length - (k + 1)) _ rfl HSV8.out (strs_one _) (by unfold maxLen; omega) (by omega) hW8.out.size ?_
        intro v7 w9 hG7
        refine hK _ _ ?_; clear hK K
        refine mix_two ?_; intro K hK; go_simp; refine hK _ _ ?_; clear hK K
        simp only [wpMix]
        have HE9 : Hid (Ext w w9) := Lib.hid (hW8.out.trans' hG7.upd (fun j hj h => absurd (g4.lt j h).1 (by omega)))
        have HR9 : Hid (StR (fun j => j < w9.heap.size) w9 v7 (rest.eraseIdx k)) := Lib.hid (ers_str hlt hG7.own)
        clear hG7 g4 hW8 HSV8 HSV HE hi hz0 hz1 hz2
        obtain ⟨a7, c7, hv7⟩ := SlR.shape HR9.out
        subst hv7
        go_wp2_with fail
        obtain ⟨g, off, hga, _, hat⟩ := SlR.one_at (d := nul) (SlR.kept HRV.out HE9.out (fun _ _ h => h)) (by omega)
        subst hga
        have q0 := hat k hlt
        obtain ⟨x, hx⟩ : ∃ x, rest.getD k nul = x := ⟨_, rfl⟩
        have qA := ((Upd.refl (fun _ => False) w9).alloc (.cells #[] 9)).cell q0 (fun h => h)
        rw [hx] at q0 qA HPM HNX HHT
        obtain ⟨SO, hSO⟩ : ∃ o, searchP L n (b ++ [x]) (rest.eraseIdx k) = o := ⟨_, rfl⟩
        rw [hSO] at HNX HHT
        have HBN : Hid ((b ++ [x]).length + n ≤ 1000) := Lib.hid (by rw [List.length_append, List.length_singleton]; have := HBL.out; omega)
        have HKX : Hid (∀ t ∈ flR L, ∀ s ∈ opN t, s ∈ (b ++ [x]) ++ rest.eraseIdx k) := Lib.hid (fun t ht s hs => HPM.out.mem_iff.2 (HKN.out t ht s hs))
        have HREC : Hid (∀ p8 c8 w8, Ext w9 w8 → StR (fun j => j < w8.heap.size) w8 (.slice p8 (b.length + 1) c8) (b ++ [x]) → Calls Tryz.prog 53 #[.slice p8 (b.length + 1) c8, .slice a7 (rest.eraseIdx k).length c7, .slice la L.length lc] w8 fun e w' => ∃ r, e = .returned (.tuple #[r, .bool SO.isSome]) ∧ (∃ a len cap, r = .slice a len cap) ∧ (∀ out, SO = some out → StR (fun _ => True) w' r out) ∧ Ext w8 w') := Lib.hid (fun p8 c8 w8 hX8 hO8 => by
          have h := HIH.out (b ++ [x]) (rest.eraseIdx k) _ _ w8 (HE0.out.trans (HE9.out.trans hX8)) HLE.out HBN.out HKX.out hO8 ((SlR.kept HR9.out hX8 (fun _ _ h => h)).weaken (fun j hj => Nat.lt_of_lt_of_le hj hX8.size))
          rw [hSO] at h
          exact h)
        have HLT := Lib.hid hlt
        obtain ⟨iS, hi, hz0, hz1, hz2⟩ := info_parts infoS
        have HNUM : Hid (b.length ≤ maxLen ∧ b.length * 16 ≤ 140737488355328 ∧ b.length + 1 ≤ maxLen ∧ (b.length + 1) * 16 ≤ 140737488355328) := Lib.hid ⟨by unfold maxLen; omega, by omega, by unfold maxLen; omega, by omega⟩
        have hd : Ext w9 w9.drew := (Upd.refl _ w9).drewN' 1
        have HXA : Hid (Ext w9 (w9.drew.alloc (.cells #[] 9))) := Lib.hid (hd.alloc _)
        have HXB : Hid (Ext w9 ((w9.drew.alloc (.cells #[] 9)).alloc (.cells #[.string x] 9))) := Lib.hid ((hd.alloc _).alloc _)
        have HXC : Hid (Ext w9 ((w9.drew.alloc (.cells #[.string x] 9)).alloc (.cells #[] 9))) := Lib.hid ((hd.alloc _).alloc _)
        have hA0 : (w9.drew.alloc (.cells #[] 9)).ownsRow w9.heap.size 9 1 (.slice (some ⟨w9.drew.heap.size, 0, none⟩) 0 0) 0 [] := World.ownsRow_lit (base := w9.heap.size) (e := 9) (size := 1) w9.drew #[] 0 hd.size (by unfold maxLen; omega) (by simp)
        have hC0 : ((w9.drew.alloc (.cells #[.string x] 9)).alloc (.cells #[] 9)).ownsRow w9.heap.size 9 1 (.slice (some ⟨w9.heap.size + 1, 0, none⟩) 0 0) 0 [] := by
          have h := World.ownsRow_lit (base := w9.heap.size) (e := 9) (size := 1) (w9.drew.alloc (.cells #[.string x] 9)) #[] 0 (hd.alloc _).size (by unfold maxLen; omega) (by simp)
          rw [show (w9.drew.alloc (.cells #[.string x] 9)).heap.size = w9.heap.size + 1 by simp] at h
          exact h
        have HA : Hid ((w9.drew.alloc (.cells #[] 9)).ownsRow w9.heap.size 9 1 (.slice (some ⟨w9.drew.heap.size, 0, none⟩) 0 0) 0 [] ∧ SlR (fun k => k < w.heap.size) (w9.drew.alloc (.cells #[] 9)) 1 (.slice ba b.length bc) b.length (sV b) ∧ w9.heap.size ≤ (w9.drew.alloc (.cells #[] 9)).heap.size) := Lib.hid ⟨hA0, SlR.kept HBV.out (HE9.out.trans HXA.out) (fun _ _ h => h), HXA.out.size⟩
        have HB : Hid (((w9.drew.alloc (.cells #[] 9)).alloc (.cells #[.string x] 9)).ownsRow w9.heap.size 9 1 (.slice (some ⟨w9.drew.heap.size, 0, none⟩) 0 0) 0 [] ∧ SlR (fun k => k < w.heap.size) ((w9.drew.alloc (.cells #[] 9)).alloc (.cells #[.string x] 9)) 1 (.slice ba b.length bc) b.length (sV b) ∧ w9.heap.size ≤ ((w9.drew.alloc (.cells #[] 9)).alloc (.cells #[.string x] 9)).heap.size) := Lib.hid ⟨hA0.alloc _, SlR.kept HBV.out (HE9.out.trans HXB.out) (fun _ _ h => h), HXB.out.size⟩
        have HC : Hid (((w9.drew.alloc (.cells #[.string x] 9)).alloc (.cells #[] 9)).ownsRow w9.heap.size 9 1 (.slice (some ⟨w9.heap.size + 1, 0, none⟩) 0 0) 0 [] ∧ SlR (fun k => k < w.heap.size) ((w9.drew.alloc (.cells #[.string x] 9)).alloc (.cells #[] 9)) 1 (.slice ba b.length bc) b.length (sV b) ∧ w9.heap.size ≤ ((w9.drew.alloc (.cells #[.string x] 9)).alloc (.cells #[] 9)).heap.size) := Lib.hid ⟨hC0, SlR.kept HBV.out (HE9.out.trans HXC.out) (fun _ _ h => h), HXC.out.size⟩
        have HLB : Hid (SlR (fun _ => True) ((w9.drew.alloc (.cells #[] 9)).alloc (.cells #[.string x] 9)) 1 (.slice (some ⟨w9.heap.size + 1, 0, none⟩) 1 1) 1 (sV [x])) := Lib.hid (by
          have h := lit_sl (w9.drew.alloc (.cells #[] 9)) x
          rw [show (w9.drew.alloc (.cells #[] 9)).heap.size = w9.heap.size + 1 by simp] at h
          exact h)
        have HLC : Hid (SlR (fun _ => True) ((w9.drew.alloc (.cells #[.string x] 9)).alloc (.cells #[] 9)) 1 (.slice (some ⟨w9.drew.heap.size, 0, none⟩) 1 1) 1 (sV [x])) := Lib.hid (SlR.kept (lit_sl w9.drew x) ((Upd.refl (fun _ => False) (w9.drew.alloc (.cells #[.string x] 9))).alloc (.cells #[] 9)) (fun _ _ h => h))
        clear hat hx hSO hd hA0 hC0 hk hlt hr1 hcap hb1 z4 z5 hnm hsv hsz1
        go_wp2_with fail
        go_region_law (first
          | (refine step_append_sl _ (.tmp 39) (.tmp 44) 22 rfl w9.heap.size 9 iS (.string ⟨#[]⟩) 1 16 Tryz.underlying22 hi hz0 hz1 hz2 rfl (by decide) (.slice p6 b.length c6) b.length _ rfl HO6.out _ (.slice (some ⟨w9.heap.size + 1, 0, none⟩) 1 1) 1 _ rfl HS7.out (strs_one _) HNUM.out.2.2.1 HNUM.out.2.2.2 HW6.out.size ?_; intro v8 w8 hG8; obtain ⟨p8, c8, hv8⟩ := own_shape hG8.own; subst hv8; have HX8 : Hid (Ext w9 w8) := Lib.hid (HW6.out.trans' hG8.upd (fun j hj e => by have h1 := (HO6.out.lt j e).1; omega)); have HO8 : Hid (StR (fun j => j < w8.heap.size) w8 (.slice p8 (b.length + 1) c8) (b ++ [x])) := Lib.hid (snoc_str hG8.own); clear hG8)
          | (refine step_append_sl _ (.tmp 39) (.tmp 44) 22 rfl w9.heap.size 9 iS (.string ⟨#[]⟩) 1 16 Tryz.underlying22 hi hz0 hz1 hz2 rfl (by decide) (.slice p6 b.length c6) b.length _ rfl HO6.out _ (.slice (some ⟨w9.drew.heap.size, 0, none⟩) 1 1) 1 _ rfl HS7.out (strs_one _) HNUM.out.2.2.1 HNUM.out.2.2.2 HW6.out.size ?_; intro v8 w8 hG8; obtain ⟨p8, c8, hv8⟩ := own_shape hG8.own; subst hv8; have HX8 : Hid (Ext w9 w8) := Lib.hid (HW6.out.trans' hG8.upd (fun j hj e => by have h1 := (HO6.out.lt j e).1; omega)); have HO8 : Hid (StR (fun j => j < w8.heap.size) w8 (.slice p8 (b.length + 1) c8) (b ++ [x])) := Lib.hid (snoc_str hG8.own); clear hG8)
          | (refine step_append_sl _ (.tmp 39) (.tmp 44) 22 rfl w9.heap.size 9 iS (.string ⟨#[]⟩) 1 16 Tryz.underlying22 hi hz0 hz1 hz2 rfl (by decide) (.slice p6 b.length c6) b.length _ rfl (HO6.out.alloc _) _ (.slice (some ⟨w6.heap.size, 0, none⟩) 1 1) 1 _ rfl (lit_sl w6 x) (strs_one _) HNUM.out.2.2.1 HNUM.out.2.2.2 (HW6.out.alloc _).size ?_; intro v8 w8 hG8; obtain ⟨p8, c8, hv8⟩ := own_shape hG8.own; subst hv8; have HX8 : Hid (Ext w9 w8) := Lib.hid ((HW6.out.alloc _).trans' hG8.upd (fun j hj e => by have h1 := (HO6.out.lt j e).1; omega)); have HO8 : Hid (StR (fun j => j < w8.heap.size) w8 (.slice p8 (b.length + 1) c8) (b ++ [x])) := Lib.hid (snoc_str hG8.own); clear hG8)
          | (refine step_append_new _ (.tmp 37) (.tmp 38) 22 rfl w9.heap.size 9 iS (.string ⟨#[]⟩) 1 16 Tryz.underlying22 hi hz0 hz1 hz2 rfl (by decide) _ rfl HA.out.1 _ _ b.length _ rfl HA.out.2.1 (strs_one _) HNUM.out.1 HNUM.out.2.1 HA.out.2.2 ?_; intro v6 w6 hE6 hO6; obtain ⟨p6, c6, hv6⟩ := own_shape hO6; subst hv6; have HO6 : Hid (w6.ownsRow w9.heap.size 9 1 (.slice p6 b.length c6) b.length (sV b)) := Lib.hid hO6; have HW6 : Hid (Ext w9 w6) := Lib.hid (HXA.out.trans hE6); have q6 := HW6.out.cell q0 (fun h => h))
          | (refine step_append_new _ (.tmp 37) (.tmp 38) 22 rfl w9.heap.size 9 iS (.string ⟨#[]⟩) 1 16 Tryz.underlying22 hi hz0 hz1 hz2 rfl (by decide) _ rfl HB.out.1 _ _ b.length _ rfl HB.out.2.1 (strs_one _) HNUM.out.1 HNUM.out.2.1 HB.out.2.2 ?_; intro v6 w6 hE6 hO6; obtain ⟨p6, c6, hv6⟩ := own_shape hO6; subst hv6; have HO6 : Hid (w6.ownsRow w9.heap.size 9 1 (.slice p6 b.length c6) b.length (sV b)) := Lib.hid hO6; have HW6 : Hid (Ext w9 w6) := Lib.hid (HXB.out.trans hE6); have q6 := HW6.out.cell q0 (fun h => h); have HS7 : Hid (SlR (fun _ => True) w6 1 (.slice (some ⟨w9.heap.size + 1, 0, none⟩) 1 1) 1 (sV [x])) := Lib.hid (SlR.kept HLB.out hE6 (fun _ _ h => h)))
          | (refine step_append_new _ (.tmp 37) (.tmp 38) 22 rfl w9.heap.size 9 iS (.string ⟨#[]⟩) 1 16 Tryz.underlying22 hi hz0 hz1 hz2 rfl (by decide) _ rfl HC.out.1 _ _ b.length _ rfl HC.out.2.1 (strs_one _) HNUM.out.1 HNUM.out.2.1 HC.out.2.2 ?_; intro v6 w6 hE6 hO6; obtain ⟨p6, c6, hv6⟩ := own_shape hO6; subst hv6; have HO6 : Hid (w6.ownsRow w9.heap.size 9 1 (.slice p6 b.length c6) b.length (sV b)) := Lib.hid hO6; have HW6 : Hid (Ext w9 w6) := Lib.hid (HXC.out.trans hE6); have q6 := HW6.out.cell q0 (fun h => h); have HS7 : Hid (SlR (fun _ => True) w6 1 (.slice (some ⟨w9.drew.heap.size, 0, none⟩) 1 1) 1 (sV [x])) := Lib.hid (SlR.kept HLC.out hE6 (fun _ _ h => h)))
          | (go_simp; refine (HREC.out p8 c8 w8 HX8.out HO8.out).mono ?_; rintro e wz ⟨r9, rfl, ⟨a9, n9, c9, rfl⟩, hs9, hw9⟩; have HEz : Hid (Ext w wz) := Lib.hid ((HE9.out.trans HX8.out).trans hw9); have HSz := Lib.hid hs9; clear hs9 hw9))
        all_goals
          have hlt := HLT.out
          clear HX8 HO8 HO6 HW6 HREC HA HB HC HLB HLC HXA HXB HXC qA q6 q0 hi hz0 hz1 hz2
          cases SO with
          | none =>
            have HN2 := Lib.hid (HNX.out rfl)
            clear HNX HHT
            simp only [Option.isSome_none]
            go_wp2_with fail
            go_roundg (rest.length - (k + 1))
            case measure => omega
            case rel => exact ⟨k + 1, by go_num, rfl, by omega, HEz, HN2⟩
          | some out =>
            have HV := Lib.hid (HHT.out out rfl)
            clear HNX HHT
            simp only [Option.isSome_some]
            go_wp2_with fail
            go_ret2
            rw [HV.out]
            exact ⟨_, rfl, ⟨_, _, _, rfl⟩, fun o h => by injection h with h; rw [← h]; exact HSz.out out rfl, HEz.out⟩
      · obtain rfl : k = rest.length := by omega
        have z2 : decide ((rest.length : Int) < (rest.length : Int)) = false := decide_eq_false (by omega)
        have HV : Hid (SP = none) := Lib.hid (by
          rw [← HSQ.out, HSP.out]
          exact fs_none _ _ (fun j hj => HM.out j (by rw [HN.out]; exact hj)))
        go_wp2_with fail
        go_ret2
        rw [HV.out]
        exact ⟨_, rfl, ⟨_, _, _, rfl⟩, fun o h => (by cases h), HE.out⟩

end Go.Proofs.YtiimccogojkldaaGreatDoor

/- The law Finds. -/
namespace Go.Proofs.YtiimccogojkldaaGreatDoor
open Go.RowKit Go.Hw Go
set_option linter.unusedVariables false
set_option linter.unusedSimpArgs false

open Tm
theorem str_below {S : Nat → Prop} {w : World} {v : Value} {l : List By} (h : StR S w v l) : StR (fun k => k < w.heap.size) w v l := by
  obtain ⟨h1, h2⟩ := h
  refine ⟨h1, ?_⟩
  rcases h2 with h2 | ⟨ad, cap, hv, hc, hS, hj⟩
  · exact .inl h2
  · refine .inr ⟨ad, cap, hv, hc, fun h0 => ⟨(hS h0).1, ?_⟩, hj⟩
    have h3 := hj 0 (by omega)
    rw [List.getElem?_eq_getElem (by rw [h1]; omega)] at h3
    exact World.block_lt_of_cell? w (⟨ad.block, ad.off + 0, none⟩ : Addr) h3
set_option maxRecDepth 100000 in
set_option maxHeartbeats 2000000 in
theorem rfind_x (L : List Rl) (lv : Value) (w : World) (hR : RuR (fun k => k < w.heap.size) w L lv) (hl : L.length ≤ 1000) (hsz : sizes (flR L) ≤ 50000) :
    Calls Tryz.prog 20 #[lv] w fun e w' => ∃ r, e = .returned (.tuple #[r, .int .i64 (findF L).2]) ∧ (∃ a len cap, r = .slice a len cap) ∧ StR (fun _ => True) w' r (findF L).1 ∧ Ext w w' := by
  have HFO := Lib.hid (rforms_x L lv _ w hR (by omega))
  have HRO := Lib.hid (fun W (hW : Ext w W) => ruleops_x L lv W ((hR.ext hW).weaken (fun k hk => Nat.lt_of_lt_of_le hk hW.size)) hl hsz)
  have HEX := Lib.hid (fun (hwf : (flR L).all (wf nmB) = true) => extend_x L lv w hR (by omega) hwf)
  obtain ⟨la, lc, rfl⟩ := hR.shape
  have hol : (sFoldO [] ((flR L).flatMap opN)).length ≤ 50000 := by
    have h1 := sFoldO_len ((flR L).flatMap opN) []
    have h2 := flat_le opN opN_len (flR L)
    rw [List.length_nil] at h1
    omega
  have hom : ∀ t ∈ flR L, ∀ s ∈ opN t, s ∈ [] ++ sFoldO [] ((flR L).flatMap opN) := fun t ht s hs => by
    rw [List.nil_append, mem_sFoldO]
    exact .inr (List.mem_flatMap.2 ⟨t, ht, hs⟩)
  have HOM := Lib.hid hom
  obtain ⟨Fm, hF⟩ : ∃ x, (flR L).all (wf nmB) = x := ⟨_, rfl⟩
  have HF := Lib.hid hF
  rw [hF] at HFO HEX
  have HFU : Hid (findF L = if Fm = false then ([], 1) else if 100 < L.length then ([], 4) else if 7 < (sFoldO [] ((flR L).flatMap opN)).length then ([], 6) else findE (searchP L (sFoldO [] ((flR L).flatMap opN)).length [] (sFoldO [] ((flR L).flatMap opN)))) := Lib.hid (by unfold findF; rw [hF])
  obtain ⟨O, hO⟩ : ∃ O, sFoldO [] ((flR L).flatMap opN) = O := ⟨_, rfl⟩
  rw [hO] at HRO HFU HOM hol
  clear hF hO hom hR hsz
  obtain ⟨FF, hFF⟩ : ∃ F, findF L = F := ⟨_, rfl⟩
  rw [hFF] at HFU ⊢
  clear hFF
  go_enter Tryz.func20, Tryz.ntmps20
  go_wp2_with fail
  cases Fm
  · have HV : Hid (FF = ([], 1)) := Lib.hid (by rw [HFU.out, if_pos rfl])
    refine HFO.out.mono ?_
    rintro e w4 ⟨rfl, hw4⟩
    have H4 := Lib.hid hw4
    clear hw4 HFO
    go_wp2_with fail
    go_ret2
    rw [HV.out]
    exact ⟨_, rfl, ⟨_, _, _, rfl⟩, SlR.nil _ _ _, H4.out⟩
  refine HFO.out.mono ?_
  rintro e w4 ⟨rfl, hw4⟩
  have H4 := Lib.hid hw4
  clear hw4 HFO
  have HEX1 := Lib.hid (HEX.out rfl)
  have HFV : Hid (FF = if 100 < L.length then ([], 4) else if 7 < O.length then ([], 6) else findE (searchP L O.length [] O)) := Lib.hid (by rw [HFU.out, if_neg (by simp)])
  clear HEX HFU
  by_cases hc : 100 < L.length
  · have HV : Hid (FF = ([], 4)) := Lib.hid (by rw [HFV.out, if_pos hc])
    have z1 : (100 : Int) < (L.length : Int) := by omega
    go_wp2_with fail
    go_ret2
    rw [HV.out]
    exact ⟨_, rfl, ⟨_, _, _, rfl⟩, SlR.nil _ _ _, H4.out⟩
  have z1 : ¬ (100 : Int) < (L.length : Int) := by omega
  have HFW : Hid (FF = if 7 < O.length then ([], 6) else findE (searchP L O.length [] O)) := Lib.hid (by rw [HFV.out, if_neg hc])
  clear hc HFV
  go_wp2_with fail
  clear z1
  refine (HRO.out _ H4.out).mono ?_
  rintro e w5 ⟨r5, rfl, hr5, hw5⟩
  have H5 := Lib.hid (H4.out.trans hw5)
  have HS5 : Hid (StR (fun k => k < w5.heap.size) w5 r5 O) := Lib.hid ((SlR.of_own hr5).weaken (fun k hk => own_lt hr5 k hk))
  obtain ⟨a5, c5, hv5⟩ := own_shape hr5
  subst hv5
  clear hr5 hw5 HRO
  by_cases h7 : 7 < O.length
  · have HV : Hid (FF = ([], 6)) := Lib.hid (by rw [HFW.out, if_pos h7])
    have z1 : (7 : Int) < (O.length : Int) := by omega
    go_wp2_with fail
    go_ret2
    rw [HV.out]
    exact ⟨_, rfl, ⟨_, _, _, rfl⟩, SlR.nil _ _ _, H5.out⟩
  have z1 : ¬ (7 : Int) < (O.length : Int) := by omega
  have HFX : Hid (FF = findE (searchP L O.length [] O)) := Lib.hid (by rw [HFW.out, if_neg h7])
  have HC := Lib.hid (HEX1.out O.length [] O (.slice none 0 0) (.slice a5 O.length c5) w5 H5.out rfl (by simp only [List.length_nil]; omega) HOM.out (SlR.nil _ _ _) HS5.out)
  obtain ⟨SO, hSO⟩ : ∃ o, searchP L O.length [] O = o := ⟨_, rfl⟩
  rw [hSO] at HC HFX
  clear hSO h7 HFW HEX1
  go_wp2_with fail
  refine HC.out.mono ?_
  rintro e w6 ⟨r6, rfl, ⟨a6, n6, c6, rfl⟩, hs6, hw6⟩
  have H6 := Lib.hid (H5.out.trans hw6)
  have HS6 := Lib.hid hs6
  clear hw6 hs6 HC z1
  cases SO with
  | none =>
    have HV : Hid (FF = ([], 12)) := HFX
    simp only [Option.isSome_none]
    go_wp2_with fail
    go_ret2
    rw [HV.out]
    exact ⟨_, rfl, ⟨_, _, _, rfl⟩, SlR.nil _ _ _, H6.out⟩
  | some out =>
    have HV : Hid (FF = (out, 0)) := HFX
    simp only [Option.isSome_some]
    go_wp2_with fail
    go_ret2
    rw [HV.out]
    exact ⟨_, rfl, ⟨_, _, _, rfl⟩, HS6.out out rfl, H6.out⟩
theorem find_len {L : List Rl} {FO : List By} {FE : Int} (h : findF L = (FO, FE)) : FO.length ≤ 1000000 := by
  unfold findF at h
  split at h
  · injection h with h _; subst h; simp
  split at h
  · injection h with h _; subst h; simp
  split at h
  · injection h with h _; subst h; simp
  · rename_i h7
    cases hs : searchP L (sFoldO [] ((flR L).flatMap opN)).length [] (sFoldO [] ((flR L).flatMap opN)) with
    | none => rw [hs] at h; injection h with h _; subst h; simp
    | some o =>
      rw [hs] at h
      injection h with h _
      subst h
      obtain ⟨_, hp⟩ := searchP_some rfl hs
      rw [List.nil_append] at hp
      have := hp.length_eq
      omega
theorem decF_len {out : List By} {L : List Rl} (h : decF out L = (true, -1, 0)) : out.length ≤ 100 := by
  refine Classical.byContradiction fun h2 => ?_
  have hp : precP nmB out = false := by
    unfold precP
    rw [decide_eq_false h2]; rfl
  unfold decF at h
  rw [if_pos (.inl hp)] at h
  simp at h
set_option maxRecDepth 100000 in
set_option maxHeartbeats 2000000 in
theorem finds_law (L : List Rl) (lv : Value) (w : World) (hR : RuR (fun k => k < w.heap.size) w L lv) (htab : AscT w) (hpow : Lib.TabIs Tryz.prog w "internal/strconv.uint64pow10" .u64 Lib.pow10Tab) :
    Calls Tryz.prog 5 #[lv] w fun e w' => e = .returned (.bool true) ∧ Ext w w' := by
  have HAW := Lib.hid (awake_x w htab hpow)
  have HCL := Lib.hid (fun (h1 : L.length ≤ 120) W (hW : Ext w W) => conl_x L lv _ W (hR.ext hW) (by omega))
  have HRO := Lib.hid (fun (h1 : L.length ≤ 120) (h2 : L.any rulLB = false) W (hW : Ext w W) => ruleops_x L lv W ((hR.ext hW).weaken (fun k hk => Nat.lt_of_lt_of_le hk hW.size)) (by omega) (by have := rules_small h2; omega))
  have HPF := Lib.hid (fun (h1 : L.length ≤ 120) (h2 : L.any rulLB = false) W (hW : Ext w W) => find_x L lv W ((hR.ext hW).weaken (fun k hk => Nat.lt_of_lt_of_le hk hW.size)) (asc_ext htab hW) (pow_upd hpow hW (fun _ _ h => h)) (by omega) (by have := rules_small h2; omega))
  have HRF := Lib.hid (fun (h1 : L.length ≤ 120) (h2 : L.any rulLB = false) W (hW : Ext w W) => rfind_x L lv W ((hR.ext hW).weaken (fun k hk => Nat.lt_of_lt_of_le hk hW.size)) (by omega) (by have := rules_small h2; omega))
  have HPD := Lib.hid (fun (h1 : L.length ≤ 120) (h2 : L.any rulLB = false) ops ov W (hW : Ext w W) (hv : StR (fun _ => True) W ov ops) (ho : ops.length ≤ 100) => decr_x ops L ov lv W (str_below hv) ((hR.ext hW).weaken (fun k hk => Nat.lt_of_lt_of_le hk hW.size)) (asc_ext htab hW) (pow_upd hpow hW (fun _ _ h => h)) (by omega) (by omega) (by have := rules_small h2; omega))
  have HFD := Lib.hid (fun out => find_dec (L := L) (out := out))
  obtain ⟨la, lc, rfl⟩ := hR.shape
  clear hR htab hpow
  go_enter Tryz.func5, Tryz.ntmps5
  go_wp2_with fail
  refine HAW.out.mono ?_
  rintro e w4 ⟨rfl, hw4⟩
  have H4 := Lib.hid hw4
  clear hw4 HAW
  by_cases hA : 12 < L.length ∧ L.length ≤ 100
  · have y1 : (12 : Int) < (L.length : Int) := by omega
    have y2 : (L.length : Int) ≤ 100 := by omega
    have y1' : decide ((12 : Int) < (L.length : Int)) = true := decide_eq_true y1
    have y2' : decide ((L.length : Int) ≤ 100) = true := decide_eq_true y2
    clear hA
    go_wp2_with fail
    all_goals go_ret
    all_goals exact ⟨rfl, H4.out⟩
  by_cases hB : 120 < L.length
  · have y1 : (12 : Int) < (L.length : Int) := by omega
    have y2 : ¬ (L.length : Int) ≤ 100 := by omega
    have y3 : (120 : Int) < (L.length : Int) := by omega
    have y1' : decide ((12 : Int) < (L.length : Int)) = true := decide_eq_true y1
    have y2' : decide ((L.length : Int) ≤ 100) = false := decide_eq_false y2
    have y3' : decide ((120 : Int) < (L.length : Int)) = true := decide_eq_true y3
    clear hA hB
    go_wp2_with fail
    all_goals go_ret
    all_goals exact ⟨rfl, H4.out⟩
  have y3 : ¬ (120 : Int) < (L.length : Int) := by omega
  have y3' : decide ((120 : Int) < (L.length : Int)) = false := decide_eq_false y3
  have hlen : L.length ≤ 120 := by omega
  have HLEN := Lib.hid hlen
  obtain ⟨D, hD⟩ : ∃ D, decide ((12 : Int) < (L.length : Int)) = D := ⟨_, rfl⟩
  have hDD : D = true → decide ((L.length : Int) ≤ 100) = false := fun h => decide_eq_false (by
    have := of_decide_eq_true (hD.trans h)
    omega)
  have HCL1 := Lib.hid (HCL.out hlen _ H4.out)
  have HRO1 := Lib.hid (HRO.out hlen)
  have HPF1 := Lib.hid (HPF.out hlen)
  have HRF1 := Lib.hid (HRF.out hlen)
  have HPD1 := Lib.hid (HPD.out hlen)
  clear HRO HPF HRF HPD HCL hA hB hlen
  obtain ⟨X, hX⟩ : ∃ x, L.any rulLB = x := ⟨_, rfl⟩
  rw [hX] at HCL1 HRO1 HPF1 HRF1 HPD1
  cases D
  · clear hDD
    go_wp2_with fail
    refine HCL1.out.mono ?_
    rintro e w6 ⟨rfl, hw6⟩
    have H6 := Lib.hid (H4.out.trans hw6)
    clear hw6 HCL1 hX
    cases X
    case true =>
      go_wp2_with fail
      all_goals go_ret
      all_goals exact ⟨rfl, H6.out⟩
    have HRO2 := Lib.hid (HRO1.out rfl _ H6.out)
    have HPF2 := Lib.hid (HPF1.out rfl)
    have HRF2 := Lib.hid (HRF1.out rfl)
    have HPD2 := Lib.hid (HPD1.out rfl)
    clear HRO1 HPF1 HRF1 HPD1
    go_wp2_with fail
    refine HRO2.out.mono ?_
    rintro e w7 ⟨r7, rfl, hr7, hw7⟩
    have H7 := Lib.hid (H6.out.trans hw7)
    obtain ⟨a7, c7, hv7⟩ := own_shape hr7
    subst hv7
    clear hr7 hw7 HRO2
    obtain ⟨N, hN⟩ : ∃ N, (sFoldO [] ((flR L).flatMap opN)).length = N := ⟨_, rfl⟩
    rw [hN]
    clear hN
    by_cases h5 : 5 < N ∧ N ≤ 7
    · have y4 : (5 : Int) < (N : Int) := by omega
      have y5 : (N : Int) ≤ 7 := by omega
      have y4' : decide ((5 : Int) < (N : Int)) = true := decide_eq_true y4
      have y5' : decide ((N : Int) ≤ 7) = true := decide_eq_true y5
      clear h5
      go_wp2_with fail
      all_goals go_ret
      all_goals exact ⟨rfl, H7.out⟩
    obtain ⟨E, hE⟩ : ∃ E, decide ((5 : Int) < (N : Int)) = E := ⟨_, rfl⟩
    have hEE : E = true → decide ((N : Int) ≤ 7) = false := fun h => decide_eq_false (by
      have := of_decide_eq_true (hE.trans h)
      omega)
    have HEE := Lib.hid hEE
    clear hEE h5
    obtain ⟨FF, hFF⟩ : ∃ F, findF L = F := ⟨_, rfl⟩
    rw [hFF] at HPF2 HRF2
    have HFF := Lib.hid hFF
    clear hFF
    obtain ⟨FO, FE⟩ := FF
    dsimp only at HPF2 HRF2
    cases E
    · clear HEE
      go_wp2_with fail
      refine (HPF2.out _ H7.out).mono ?_
      rintro e w8 ⟨r8, rfl, _, hs8, hw8⟩
      have H8 := Lib.hid (H7.out.trans hw8)
      have HS8 := Lib.hid hs8
      obtain ⟨a8, c8, hv8⟩ := SlR.shape hs8
      subst hv8
      clear hw8 hs8 HPF2
      go_wp2_with fail
      refine (HRF2.out _ H8.out).mono ?_
      rintro e w9 ⟨r9, rfl, _, hs9, hw9⟩
      have H9 := Lib.hid (H8.out.trans hw9)
      have HS9 := Lib.hid hs9
      have HS89 := Lib.hid (SlR.kept HS8.out hw9 (fun _ _ h => h))
      obtain ⟨a9, c9, hv9⟩ := SlR.shape hs9
      subst hv9
      clear hw9 hs9 HRF2 HS8
      by_cases hlo : FO.length ≤ 1000000
      · have HEQ := Lib.hid (eqs_x FO FO _ _ _ _ w9 HS89.out HS9.out hlo hlo)
        rw [decide_eq_true rfl] at HEQ
        go_wp2_with fail
        refine HEQ.out.mono ?_
        rintro e wa ⟨rfl, hwa⟩
        have HA := Lib.hid (H9.out.trans hwa)
        have HSA := Lib.hid (SlR.kept HS89.out hwa (fun _ _ h => h))
        clear hwa HEQ HS89 HS9
        by_cases h0 : FE = 0
        · subst h0
          have hdec := HFD.out FO HFF.out
          have HD := Lib.hid (HPD2.out FO _ wa HA.out HSA.out (decF_len hdec))
          rw [hdec] at HD
          clear hdec HPD2 hlo
          go_wp2_with fail
          refine HD.out.mono ?_
          rintro e wb ⟨rfl, hwb⟩
          have HB := Lib.hid (HA.out.trans hwb)
          clear hwb HD
          go_wp2_with fail
          all_goals go_ret
          all_goals (first | exact ⟨rfl, HB.out⟩ | exact ⟨by simp, HB.out⟩)
        · have e0 : (FE == 0) = false := beq_eq_false_iff_ne.2 h0
          have e1 : (FE != 0) = true := by simp [h0]
          clear HPD2 hlo
          go_wp2_with fail
          all_goals go_ret
          all_goals (first | exact ⟨rfl, HA.out⟩ | exact ⟨by simp, HA.out⟩)
      · exact absurd (find_len HFF.out) hlo
    · have y5' := HEE.out rfl
      have y5 := of_decide_eq_false y5'
      clear HEE
      go_wp2_with fail
      refine (HPF2.out _ H7.out).mono ?_
      rintro e w8 ⟨r8, rfl, _, hs8, hw8⟩
      have H8 := Lib.hid (H7.out.trans hw8)
      have HS8 := Lib.hid hs8
      obtain ⟨a8, c8, hv8⟩ := SlR.shape hs8
      subst hv8
      clear hw8 hs8 HPF2
      go_wp2_with fail
      refine (HRF2.out _ H8.out).mono ?_
      rintro e w9 ⟨r9, rfl, _, hs9, hw9⟩
      have H9 := Lib.hid (H8.out.trans hw9)
      have HS9 := Lib.hid hs9
      have HS89 := Lib.hid (SlR.kept HS8.out hw9 (fun _ _ h => h))
      obtain ⟨a9, c9, hv9⟩ := SlR.shape hs9
      subst hv9
      clear hw9 hs9 HRF2 HS8
      by_cases hlo : FO.length ≤ 1000000
      · have HEQ := Lib.hid (eqs_x FO FO _ _ _ _ w9 HS89.out HS9.out hlo hlo)
        rw [decide_eq_true rfl] at HEQ
        go_wp2_with fail
        refine HEQ.out.mono ?_
        rintro e wa ⟨rfl, hwa⟩
        have HA := Lib.hid (H9.out.trans hwa)
        have HSA := Lib.hid (SlR.kept HS89.out hwa (fun _ _ h => h))
        clear hwa HEQ HS89 HS9
        by_cases h0 : FE = 0
        · subst h0
          have hdec := HFD.out FO HFF.out
          have HD := Lib.hid (HPD2.out FO _ wa HA.out HSA.out (decF_len hdec))
          rw [hdec] at HD
          clear hdec HPD2 hlo
          go_wp2_with fail
          refine HD.out.mono ?_
          rintro e wb ⟨rfl, hwb⟩
          have HB := Lib.hid (HA.out.trans hwb)
          clear hwb HD
          go_wp2_with fail
          all_goals go_ret
          all_goals (first | exact ⟨rfl, HB.out⟩ | exact ⟨by simp, HB.out⟩)
        · have e0 : (FE == 0) = false := beq_eq_false_iff_ne.2 h0
          have e1 : (FE != 0) = true := by simp [h0]
          clear HPD2 hlo
          go_wp2_with fail
          all_goals go_ret
          all_goals (first | exact ⟨rfl, HA.out⟩ | exact ⟨by simp, HA.out⟩)
      · exact absurd (find_len HFF.out) hlo
  · have y2' := hDD rfl
    have y2 := of_decide_eq_false y2'
    clear hDD
    go_wp2_with fail
    refine HCL1.out.mono ?_
    rintro e w6 ⟨rfl, hw6⟩
    have H6 := Lib.hid (H4.out.trans hw6)
    clear hw6 HCL1 hX
    cases X
    case true =>
      go_wp2_with fail
      all_goals go_ret
      all_goals exact ⟨rfl, H6.out⟩
    have HRO2 := Lib.hid (HRO1.out rfl _ H6.out)
    have HPF2 := Lib.hid (HPF1.out rfl)
    have HRF2 := Lib.hid (HRF1.out rfl)
    have HPD2 := Lib.hid (HPD1.out rfl)
    clear HRO1 HPF1 HRF1 HPD1
    go_wp2_with fail
    refine HRO2.out.mono ?_
    rintro e w7 ⟨r7, rfl, hr7, hw7⟩
    have H7 := Lib.hid (H6.out.trans hw7)
    obtain ⟨a7, c7, hv7⟩ := own_shape hr7
    subst hv7
    clear hr7 hw7 HRO2
    obtain ⟨N, hN⟩ : ∃ N, (sFoldO [] ((flR L).flatMap opN)).length = N := ⟨_, rfl⟩
    rw [hN]
    clear hN
    by_cases h5 : 5 < N ∧ N ≤ 7
    · have y4 : (5 : Int) < (N : Int) := by omega
      have y5 : (N : Int) ≤ 7 := by omega
      have y4' : decide ((5 : Int) < (N : Int)) = true := decide_eq_true y4
      have y5' : decide ((N : Int) ≤ 7) = true := decide_eq_true y5
      clear h5
      go_wp2_with fail
      all_goals go_ret
      all_goals exact ⟨rfl, H7.out⟩
    obtain ⟨E, hE⟩ : ∃ E, decide ((5 : Int) < (N : Int)) = E := ⟨_, rfl⟩
    have hEE : E = true → decide ((N : Int) ≤ 7) = false := fun h => decide_eq_false (by
      have := of_decide_eq_true (hE.trans h)
      omega)
    have HEE := Lib.hid hEE
    clear hEE h5
    obtain ⟨FF, hFF⟩ : ∃ F, findF L = F := ⟨_, rfl⟩
    rw [hFF] at HPF2 HRF2
    have HFF := Lib.hid hFF
    clear hFF
    obtain ⟨FO, FE⟩ := FF
    dsimp only at HPF2 HRF2
    cases E
    · clear HEE
      go_wp2_with fail
      refine (HPF2.out _ H7.out).mono ?_
      rintro e w8 ⟨r8, rfl, _, hs8, hw8⟩
      have H8 := Lib.hid (H7.out.trans hw8)
      have HS8 := Lib.hid hs8
      obtain ⟨a8, c8, hv8⟩ := SlR.shape hs8
      subst hv8
      clear hw8 hs8 HPF2
      go_wp2_with fail
      refine (HRF2.out _ H8.out).mono ?_
      rintro e w9 ⟨r9, rfl, _, hs9, hw9⟩
      have H9 := Lib.hid (H8.out.trans hw9)
      have HS9 := Lib.hid hs9
      have HS89 := Lib.hid (SlR.kept HS8.out hw9 (fun _ _ h => h))
      obtain ⟨a9, c9, hv9⟩ := SlR.shape hs9
      subst hv9
      clear hw9 hs9 HRF2 HS8
      by_cases hlo : FO.length ≤ 1000000
      · have HEQ := Lib.hid (eqs_x FO FO _ _ _ _ w9 HS89.out HS9.out hlo hlo)
        rw [decide_eq_true rfl] at HEQ
        go_wp2_with fail
        refine HEQ.out.mono ?_
        rintro e wa ⟨rfl, hwa⟩
        have HA := Lib.hid (H9.out.trans hwa)
        have HSA := Lib.hid (SlR.kept HS89.out hwa (fun _ _ h => h))
        clear hwa HEQ HS89 HS9
        by_cases h0 : FE = 0
        · subst h0
          have hdec := HFD.out FO HFF.out
          have HD := Lib.hid (HPD2.out FO _ wa HA.out HSA.out (decF_len hdec))
          rw [hdec] at HD
          clear hdec HPD2 hlo
          go_wp2_with fail
          refine HD.out.mono ?_
          rintro e wb ⟨rfl, hwb⟩
          have HB := Lib.hid (HA.out.trans hwb)
          clear hwb HD
          go_wp2_with fail
          all_goals go_ret
          all_goals (first | exact ⟨rfl, HB.out⟩ | exact ⟨by simp, HB.out⟩)
        · have e0 : (FE == 0) = false := beq_eq_false_iff_ne.2 h0
          have e1 : (FE != 0) = true := by simp [h0]
          clear HPD2 hlo
          go_wp2_with fail
          all_goals go_ret
          all_goals (first | exact ⟨rfl, HA.out⟩ | exact ⟨by simp, HA.out⟩)
      · exact absurd (find_len HFF.out) hlo
    · have y5' := HEE.out rfl
      have y5 := of_decide_eq_false y5'
      clear HEE
      go_wp2_with fail
      refine (HPF2.out _ H7.out).mono ?_
      rintro e w8 ⟨r8, rfl, _, hs8, hw8⟩
      have H8 := Lib.hid (H7.out.trans hw8)
      have HS8 := Lib.hid hs8
      obtain ⟨a8, c8, hv8⟩ := SlR.shape hs8
      subst hv8
      clear hw8 hs8 HPF2
      go_wp2_with fail
      refine (HRF2.out _ H8.out).mono ?_
      rintro e w9 ⟨r9, rfl, _, hs9, hw9⟩
      have H9 := Lib.hid (H8.out.trans hw9)
      have HS9 := Lib.hid hs9
      have HS89 := Lib.hid (SlR.kept HS8.out hw9 (fun _ _ h => h))
      obtain ⟨a9, c9, hv9⟩ := SlR.shape hs9
      subst hv9
      clear hw9 hs9 HRF2 HS8
      by_cases hlo : FO.length ≤ 1000000
      · have HEQ := Lib.hid (eqs_x FO FO _ _ _ _ w9 HS89.out HS9.out hlo hlo)
        rw [decide_eq_true rfl] at HEQ
        go_wp2_with fail
        refine HEQ.out.mono ?_
        rintro e wa ⟨rfl, hwa⟩
        have HA := Lib.hid (H9.out.trans hwa)
        have HSA := Lib.hid (SlR.kept HS89.out hwa (fun _ _ h => h))
        clear hwa HEQ HS89 HS9
        by_cases h0 : FE = 0
        · subst h0
          have hdec := HFD.out FO HFF.out
          have HD := Lib.hid (HPD2.out FO _ wa HA.out HSA.out (decF_len hdec))
          rw [hdec] at HD
          clear hdec HPD2 hlo
          go_wp2_with fail
          refine HD.out.mono ?_
          rintro e wb ⟨rfl, hwb⟩
          have HB := Lib.hid (HA.out.trans hwb)
          clear hwb HD
          go_wp2_with fail
          all_goals go_ret
          all_goals (first | exact ⟨rfl, HB.out⟩ | exact ⟨by simp, HB.out⟩)
        · have e0 : (FE == 0) = false := beq_eq_false_iff_ne.2 h0
          have e1 : (FE != 0) = true := by simp [h0]
          clear HPD2 hlo
          go_wp2_with fail
          all_goals go_ret
          all_goals (first | exact ⟨rfl, HA.out⟩ | exact ⟨by simp, HA.out⟩)
      · exact absurd (find_len HFF.out) hlo

end Go.Proofs.YtiimccogojkldaaGreatDoor

/- The law PathorderFinds: the row, and the tied card. For every input the call returns true, and each argument reads as it did. -/
namespace Go.Proofs.YtiimccogojkldaaGreatDoor
open Go.ChangeShapes Go.WideShapes Go.ChangeAt Go.RowKit Go.Hw
set_option linter.unusedVariables false
set_option linter.unusedSimpArgs false
set_option maxRecDepth 100000 in
theorem pathorderFinds_lifted (os : Os) (started : os.Started) (H : Type) (enc : TypeId × Value → H) :
    ReturnsInHanded {} Tryz.checked os 5 .any (fun w args => (Rows.pathorderFindsSpec.pre enc Tryz.prog Tryz.f5 [] false w args ∧ laidMetH Tryz.prog tabsL w) ∧ sizedMet enc Tryz.prog Tryz.f5 (OpenSpec.ofChange Rows.pathorderFindsSpec) false w args)
      (Rows.pathorderFindsSpec.post enc Tryz.prog Tryz.f5 false true false false) := by
  refine returnsInHanded_of_change_and (C := Tryz.checked) (X := fun w _ => laidMetH Tryz.prog tabsL w) (fun _ _ _ hh h => h.of_heap hh) Tryz.own started (by kernel_rfl) Tryz.func5
    (ChangeSpec.witness_shaped (enc := enc) (C := Tryz.checked) (os := os) (X := fun w _ => laidMetH Tryz.prog tabsL w) false (World.laidAll Tryz.prog os tabsL) #[.slice none 0 0] 8 (World.laidAll_os _ _ _)
      (World.shaped_of_ZipB (by kernel_rfl) (by kernel_rfl)) (by kernel_rfl) (by kernel_rfl) (by kernel_rfl)
      (by rw [MakeChecks.laidMetH_plain _ _ _ (by kernel_rfl)]; exact laidMet_laidAll _ (by kernel_rfl) (by kernel_rfl))) ?_
  intro W base args ds gs before hval0 hW hcnd hLgt hL _
  have hval : ∀ (j : Nat) t v, Tryz.f5.params[j]? = some t → args[j]? = some v → Value.okWide Tryz.prog W .any base t v := hval0
  have hW' := hW
  obtain ⟨p, q, hA0, hV, rfl, hfz, hnd⟩ := hW
  have hA : DataW.TrodAll enc Tryz.prog W 0 (fun _ => true) true Tryz.f5.params.toList args.toList ds p := hA0
  rw [Tryz.params5] at hA hval
  obtain ⟨v0, vs0, d0, ds0, p0, q0, hargs, rfl, rfl, h0, r0⟩ := trodAll_cons hA
  obtain ⟨rfl, rfl, rfl⟩ := trodAll_nil r0
  obtain rfl : args = #[v0] := by cases args; simp_all
  obtain ⟨rfl, rfl⟩ := trodVars_none hV
  simp only [List.append_nil] at hW'
  have hlt : ∀ x ∈ p0, x.block < W.heap.size := fun x hx => by simpa using hW'.lt x hx
  have k0 : ∀ (W' : World), Below W.heap.size W W' → DataW.Trod enc Tryz.prog W' 0 (fun b => decide (b < W.heap.size)) true 35 v0 d0 p0 :=
    fun W' hn => Below.trod Tryz.laidOut (by kernel_rfl) (of_decide_eq_true (by kernel_rfl)) h0 hn (fun x hx => hlt x (by simp [hx]))
  obtain ⟨l0, hl0, hm0, hu0⟩ := open_rules h0 (okWide_slice Tryz.underlying35 (hval 0 35 v0 rfl rfl))
  have hR0 := rules_in hl0 hu0
  have HT := tab_of_laid hL
  have HA := asc_of_laid hL
  clear hA0 hval0
  refine (finds_law (ruls l0) v0 W hR0 HA HT).mono fun e W' ⟨he, hx⟩ => ?_
  subst he
  have hn := Ext.below hx
  refine ⟨_, rfl, _, _, _, [], p0 ++ [], [], hW', ?_, ?_, rfl, hn.frame _, fun h => by cases h⟩
  · exact trodAll_cons_mk (shut_bool Tryz.underlying4 true) trodAll_mk0
  · exact trodAll_cons_mk (k0 _ hn) trodAll_mk0

theorem pathorderFinds_row_holds : Rows.PathorderFindsSaid :=
  OpenClaim.holds_of_wide 5 Tryz.f5 rfl rfl rfl rfl rfl rfl rfl ⟨rfl, rfl, rfl, rfl, rfl⟩ rfl rfl rfl rfl rfl (by kernel_rfl) Tryz.func5 (by kernel_rfl)
    (of_decide_eq_true (by kernel_rfl)) (by unfold Func.isWrapper; first | (rw [if_pos (by decide +kernel)]; kernel_rfl) | (rw [if_neg (by decide +kernel)]; exact ⟨rfl, rfl⟩))
    (fun os started H enc _ => pathorderFinds_lifted os started H enc)
theorem pathorderFinds_holds : Rows.PathorderFindsCardSaid :=
  Claim7.holds_tied_plain_at .later [] [.data, .data, .data, .listed, .data] true (true, "bac6dac459e8299fc4ebf66e6e4987433add47040902b3fb521380f412e52315") false pathorderFinds_row_holds (fun _ h => by cases h) (by kernel_rfl) (fun _ h => by cases h) pathorderFinds_row_tie rfl ⟨rfl, rfl⟩ (by kernel_rfl) rfl
    (fun f fn hf hfn => by
      obtain rfl : f = 5 := Option.some.inj ((show Tryz.prog.funcNamed "heartwood/heartwoodlaw08.PathorderFinds" = some 5 by kernel_rfl).symm.trans hf) |>.symm
      obtain rfl : fn = Tryz.f5 := (Option.some.inj (Tryz.func5.symm.trans hfn)).symm
      exact ⟨by kernel_rfl, fun j t ht => by
        rw [Tryz.params5] at ht
        have hm : t ∈ [35] := by simpa using Array.mem_of_getElem? ht
        have hall : ([35].all fun u => !Tryz.prog.wantsStandIn u) = true := by kernel_rfl
        exact (show Tryz.prog.wantsStandIn t = false by simpa using List.all_eq_true.1 hall t hm)⟩)
    (by kernel_rfl)
#print axioms pathorderFinds_holds
end Go.Proofs.YtiimccogojkldaaGreatDoor
