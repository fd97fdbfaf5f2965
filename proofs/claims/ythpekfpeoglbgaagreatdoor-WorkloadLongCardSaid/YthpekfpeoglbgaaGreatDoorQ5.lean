/- heartwoodref03.Parse. -/
import Derived.Test.YthpekfpeoglbgaaGreatDoorQ4
import Derived.Test.YthpekfpeoglbgaaGreatDoorW7
import Derived.Test.YthpekfpeoglbgaaGreatDoorW21
namespace Go.Proofs.YthpekfpeoglbgaaGreatDoor
open Go.RowKit Go.Hw
set_option linter.unusedVariables false
set_option linter.unusedSimpArgs false

theorem len_size (s : ByteArray) : s.data.toList.length = s.size := rfl
theorem drop_at (s : ByteArray) (k : Nat) (h : k < s.size) : s.data.toList.drop k = s[k] :: s.data.toList.drop (k + 1) := by
  have hl : k < s.data.toList.length := by rw [len_size]; exact h
  rw [List.drop_eq_getElem_cons hl]
  rfl
theorem getD_at (s : ByteArray) (k : Nat) (h : k < s.size) : s.data.toList.getD k 0 = s[k] := by
  have hl : k < s.data.toList.length := by rw [len_size]; exact h
  rw [List.getD_eq_getElem?_getD, List.getElem?_eq_getElem hl]
  rfl
theorem eq32 {c : UInt8} {n : Nat} (h : c.toNat = n) : (c = 32) = (n = 32) := by
  refine propext ⟨fun e => ?_, fun e => ?_⟩
  · subst e; rw [← h]; rfl
  · apply UInt8.toNat_inj.1
    rw [h, e]; rfl
theorem eq45 {c : UInt8} {n : Nat} (h : c.toNat = n) : (c = 45) = (n = 45) := by
  refine propext ⟨fun e => ?_, fun e => ?_⟩
  · subst e; rw [← h]; rfl
  · apply UInt8.toNat_inj.1
    rw [h, e]; rfl
theorem rargs_stop {f : Nat} {l : List UInt8} {acc : List Int} (h : l.length < f) (hs : l = [] ∨ 64 < acc.length) : rargs f l acc = acc := by
  cases f with
  | zero => omega
  | succ f =>
    cases l with
    | nil => rfl
    | cons c t =>
      unfold rargs
      rcases hs with hs | hs
      · cases hs
      · rw [if_pos hs]
theorem rargs_go {f : Nat} {c : UInt8} {l : List UInt8} {acc : List Int} (hs : ¬ 64 < acc.length) : rargs (f + 1) (c :: l) acc = rargs f (rone l).2 (acc ++ [(rone l).1]) := by
  rw [rargs, if_neg hs]
theorem rcd_bd (ns : List ByteArray) (p : ByteArray) : ∀ j, 0 ≤ rcd ns p j ∧ rcd ns p j ≤ j
  | 0 => ⟨Int.le_refl _, Int.le_refl _⟩
  | j + 1 => by
    have := rcd_bd ns p j
    unfold rcd
    split <;> omega
theorem rnum_at (t : ByteArray) (b : Nat) (hb : b < t.size) {n : Nat} (h : (t[b]'hb).toNat = n) (N : Int) : rnum (t.data.toList.drop b) N = if n = 32 then (N, t.data.toList.drop b) else rnum (t.data.toList.drop (b + 1)) (max (min (10 * N + (n : Int) - 48) 1048577) 0) := by
  have hdr := drop_at t b hb
  by_cases e : n = 32
  · rw [if_pos e, hdr, rnum, if_pos ((eq32 h).mpr e)]
  · rw [if_neg e, hdr, rnum, if_neg (fun h2 => e ((eq32 h).mp h2)), h]
/-- what the reference's Parse leaves -/
def RPost (kind : Int) (t : ByteArray) (w : World) (e : Ending) (w' : World) : Prop :=
  (∃ o v, Good kind t o ∧ e = .returned (.tuple #[.agg #[.int .i64 o.code, v], .bool true]) ∧ NumR (fun k => w.heap.size ≤ k) w' v o.args ∧ Ext w w') ∨
  ((∀ o, ¬ Good kind t o) ∧ e = .returned (.tuple #[.agg #[.int .i64 0, .slice none 0 0], .bool false]) ∧ Ext w w')
/-- where the word ends -/
theorem first_part {a b : List UInt8} {k : Nat} (ha : (32 : UInt8) ∉ a) (hb : b = [] ∨ ∃ r, b = 32 :: r) (hk : k ≤ (a ++ b).length) (h1 : ∀ i, i < k → (a ++ b).getD i 0 ≠ 32) (h2 : k = (a ++ b).length ∨ (a ++ b).getD k 0 = 32) : k = a.length := by
  rw [List.length_append] at hk h2
  rcases Nat.lt_trichotomy k a.length with h | h | h
  · rcases h2 with h2 | h2
    · omega
    · rw [List.getD_eq_getElem?_getD, List.getElem?_append_left h, List.getElem?_eq_getElem h, Option.getD_some] at h2
      exact absurd (by rw [← h2]; exact List.getElem_mem h) ha
  · exact h
  · have h3 := h1 a.length h
    rcases hb with rfl | ⟨r, rfl⟩
    · simp at hk; omega
    · exact absurd (by simp) h3
theorem ref_good {kind : Int} {t : ByteArray} {o : OpM} (h : Good kind t o) {k : Nat} (hk : k ≤ t.size) (h1 : ∀ i, i < k → t.data.toList.getD i 0 ≠ 32) (h2 : k = t.size ∨ t.data.toList.getD k 0 = 32) :
    (⟨rcd (nmB kind) (t.extract 0 k) (nW kind), rargs (t.size + 1) (t.data.toList.drop k) []⟩ : OpM) = o := by
  obtain ⟨hv, rfl⟩ := h
  obtain ⟨hal, hak, hc1, hc2⟩ := valid_args hv
  have e : opT kind o = wN kind o.code ++ (o.args.flatMap fun n => 32 :: Lib.itoa n) := rfl
  rw [bs_data] at h1 h2 ⊢
  rw [bs_size] at hk h2 ⊢
  rw [e] at h1 h2 hk
  have hkk := first_part (wN_no kind o.code).1 (fm_start o.args) hk h1 h2
  have e1 : (bs (opT kind o)).extract 0 k = bs (wN kind o.code) := by
    rw [e, hkk]
    apply ByteArray.ext
    simp [bs]
  have e2 : (opT kind o).drop k = (o.args.flatMap fun n => 32 :: Lib.itoa n) := by rw [e, hkk, List.drop_left]
  rw [e1, e2, rcd_good hc1 hc2, rargs_good _ _ _ hak _ (by simp; omega)]
  · rfl
  · rw [e, List.length_append]
    have : o.args.length ≤ (o.args.flatMap fun n => 32 :: Lib.itoa n).length := by
      clear hal hak hc1 hc2 hv e h1 h2 hk hkk e1 e2
      generalize o.args = A
      induction A with
      | nil => simp
      | cons a l ih => simp only [List.flatMap_cons, List.length_append, List.length_cons]; omega
    omega
set_option maxHeartbeats 4000000 in
set_option maxRecDepth 100000 in
theorem rparse_x (kind : Int) (t : ByteArray) (w : World) (hk : 1 ≤ kind ∧ kind ≤ 6) (hs : t.size ≤ 1000000) :
    Calls Tryz.prog 26 #[.int .i64 kind, .string t] w (RPost kind t w) := by
  obtain ⟨i0, hi, hz0, hz1, hz2⟩ := info_parts info3
  have CW : Hid (∀ W : World, Calls Tryz.prog 53 #[.int .i64 kind] W fun e w' => ∃ v, e = .returned v ∧ RNames kind W w' v) := fun W => rnames_known kind W hk
  have HZ : Hid (Ext w (w.alloc (.cells #[.int .i64 0, .slice none 0 0] 40))) := (Upd.refl _ w).alloc _
  have HB : Hid (∀ W, Ext (w.alloc (.cells #[.int .i64 0, .slice none 0 0] 40)) W → W.heap[w.heap.size]? = some (.cells #[.int .i64 0, .slice none 0 0] 40)) := fun W hW => hW.heap (alloc0 w _) (fun h => h)
  have hn8 := nW_le kind
  go_enter Tryz.func26, Tryz.ntmps26
  go_wp2_with fail
  have HWX0 : Hid (w.heap.size < (w.alloc (.cells #[.int .i64 0, .slice none 0 0] 40)).heap.size) := Lib.hid (by simp)
  generalize w.alloc (.cells #[.int .i64 0, .slice none 0 0] 40) = w1 at *
  go_loopg [6] t.size (fun gk x wx => ∃ k : Nat, x = .int .i64 k ∧ gk = t.size - k ∧ k ≤ t.size ∧ Hid (∀ i, i < k → t.data.toList.getD i 0 ≠ 32) ∧ wx = w1)
  case atStart => exact ⟨0, rfl, rfl, Nat.zero_le _, fun i h => absurd h (Nat.not_lt_zero _), rfl⟩
  case round =>
    obtain ⟨k, rfl, rfl, hk1, HF, hwx⟩ := hrel
    subst hwx
    obtain ⟨wx, hwx⟩ : ∃ wx, wx = wr := ⟨_, rfl⟩
    subst hwx
    have HWX := HWX0
    by_cases hkl : k < t.size ∧ t.data.toList.getD k 0 ≠ 32
    · obtain ⟨hlt, hne⟩ := hkl
      have t1 : decide ((k : Int) < (t.size : Int)) = true := decide_eq_true (by omega)
      have t1' : decide (k < t.size) = true := decide_eq_true hlt
      have j0 : (0 : Int) ≤ (k : Int) := by omega
      have j1 : (k : Int) < (t.size : Int) := by omega
      obtain ⟨c, hc⟩ : ∃ c : Nat, (t[k]'hlt).toNat = c := ⟨_, rfl⟩
      have hgd : t.data.toList.getD k 0 = t[k]'hlt := getD_at t k hlt
      have hc32 : c ≠ 32 := fun e => by rw [hgd, Ne, eq32 hc] at hne; exact hne e
      have HF2 : Hid (∀ i, i < k + 1 → t.data.toList.getD i 0 ≠ 32) := fun i hi => by
        by_cases e : i = k
        · subst e; exact hne
        · exact HF.out i (by omega)
      have n1 : ((c : Int) == 32) = false := beq_eq_false_iff_ne.2 (by omega)
      have n2 : ((c : Int) != 32) = true := bne_iff_ne.2 (by omega)
      have n3 : (c == 32) = false := beq_eq_false_iff_ne.2 (by omega)
      have n4 : (c != 32) = true := bne_iff_ne.2 (by omega)
      clear hne hgd
      go_wp2_with fail
      go_roundg (t.size - (k + 1))
      case measure => omega
      case rel => exact ⟨k + 1, by go_num, rfl, by omega, HF2, rfl⟩
    · have HEX : Hid (k = t.size ∨ t.data.toList.getD k 0 = 32) := by
        by_cases h : k = t.size
        · exact Or.inl h
        · right
          exact Classical.not_not.1 (fun e => hkl ⟨by omega, e⟩)
      have HGO : Hid (∀ o, Good kind t o → (⟨rcd (nmB kind) (t.extract 0 k) (nW kind), rargs (t.size + 1) (t.data.toList.drop k) []⟩ : OpM) = o) := fun o ho => ref_good ho hk1 HF.out HEX.out
      by_cases hkz : k < t.size
      · have h32 : t.data.toList.getD k 0 = 32 := by rcases HEX.out with h | h; omega; exact h
        have t1 : decide ((k : Int) < (t.size : Int)) = true := decide_eq_true (by omega)
        have t1' : decide (k < t.size) = true := decide_eq_true hkz
        have j0 : (0 : Int) ≤ (k : Int) := by omega
        have j1 : (k : Int) < (t.size : Int) := by omega
        obtain ⟨c, hc⟩ : ∃ c : Nat, (t[k]'hkz).toNat = c := ⟨_, rfl⟩
        have hgd : t.data.toList.getD k 0 = t[k]'hkz := getD_at t k hkz
        have hc32 : c = 32 := by rw [hgd, eq32 hc] at h32; exact h32
        subst hc32
        clear h32 hgd
        have HE2 : Hid (Ext wx (wx.alloc (.cells #[.int .i64 0, .slice none 0 0] 40))) := (Upd.refl _ wx).alloc _
        have HB2 := Lib.hid (alloc0 wx (.cells #[.int .i64 0, .slice none 0 0] 40))
        go_wp2_with fail
        refine (CW.out _).mono ?_
        rintro e w3 ⟨v, rfl, hwn⟩
        obtain ⟨g, rfl, hcell⟩ := hwn.row
        have HE3 := Lib.hid (HE2.out.ext hwn.ext)
        have HO3 := Lib.hid (hwn.ext.heap HB2.out (fun h => h))
        have HZ3 := Lib.hid (HB.out _ HE3.out)
        have HW3 := Lib.hid (HZ.out.ext HE3.out)
        have HNM : Hid (∀ i, i < nW kind → w3.cell? ⟨g, i, none⟩ = some (.string ((nmB kind).getD i ByteArray.empty))) := fun i hi => by rw [nmB_get kind i hi]; exact hcell i hi
        obtain ⟨B, hBe⟩ : ∃ B, wx.heap.size = B := ⟨_, rfl⟩
        rw [hBe] at HO3 ⊢
        have hBw : w.heap.size < B := by
          have h1 := HWX.out
          omega
        have hB3 : B < w3.heap.size := (Array.getElem?_eq_some_iff.1 HO3.out).1
        have hnw : 0 < nW kind := (nW_known kind).2 hk
        have hgB : g ≠ B := fun e => by
          have h1 := HNM.out 0 hnw
          rw [e, cellRow HO3.out 0 _ rfl] at h1
          injection h1 with h1
          cases h1
        clear hcell hwn hBe HE2 HB2 HE3
        have kk0 : (0 : Int) ≤ (k : Int) := by omega
        have kk1 : (k : Int) ≤ (t.size : Int) := by omega
        go_wp2_with fail
        go_loopg [9] (nW kind) (fun gk x wy => ∃ j : Nat, x = .int .i64 j ∧ gk = nW kind - j ∧ j ≤ nW kind ∧ Hid (Upd (fun k => k = B) w3 wy) ∧ Hid (wy.heap[B]? = some (.cells #[.int .i64 (rcd (nmB kind) (t.extract 0 k) j), .slice none 0 0] 40 (0, 0))))
        case atStart => exact ⟨0, rfl, rfl, Nat.zero_le _, Upd.refl _ _, HO3.out⟩
        case round =>
          obtain ⟨j, rfl, rfl, hj, HU, HO⟩ := hrel
          by_cases hjn : j < nW kind
          · have c0 := HU.out.cell (HNM.out j hjn) hgB
            have i0' : (0 : Int) ≤ (j : Int) := by omega
            have i1' : (j : Int) < (nW kind : Int) := by omega
            have z0 := cellRow HO.out 0 _ rfl
            have z1 := frozenRow HO.out 0
            by_cases hX : (nmB kind).getD j ByteArray.empty = t.extract 0 k
            · have b1 : (((nmB kind).getD j ByteArray.empty).toList == (t.extract 0 k).toList) = true := (Lib.bytes_beq_iff _ _).2 hX
              have HR : Hid (rcd (nmB kind) (t.extract 0 k) (j + 1) = (j : Int) + 1) := Lib.hid (by rw [rcd, if_pos hX])
              clear hX
              generalize (nmB kind).getD j ByteArray.empty = Y at *
              generalize rcd (nmB kind) (t.extract 0 k) j = c7 at *
              go_wp2_with fail
              go_quiet (fail)
              go_wp2_with fail
              go_roundg (nW kind - (j + 1))
              case measure => omega
              case rel =>
                refine ⟨j + 1, by go_num, rfl, by omega, (HU.out.drewN' _).setCell (p := ⟨B, 0, none⟩) (.inl rfl) _, ?_⟩
                rw [HR.out]
                exact setBlock (w := World.drewN _ _) HO.out 0 (.int .i64 ((j : Int) + 1))
            · have b1 : (((nmB kind).getD j ByteArray.empty).toList == (t.extract 0 k).toList) = false := (Lib.bytes_beq_false_iff _ _).2 hX
              have HR : Hid (rcd (nmB kind) (t.extract 0 k) (j + 1) = rcd (nmB kind) (t.extract 0 k) j) := Lib.hid (by rw [rcd, if_neg hX])
              clear hX
              generalize (nmB kind).getD j ByteArray.empty = Y at *
              go_wp2_with fail
              go_quiet (fail)
              go_wp2_with fail
              go_roundg (nW kind - (j + 1))
              case measure => omega
              case rel =>
                refine ⟨j + 1, by go_num, rfl, by omega, HU.out.drewN' _, ?_⟩
                rw [HR.out]
                exact HO.out
          · obtain rfl : j = nW kind := by omega
            obtain ⟨w6, h6⟩ : ∃ w6, w6 = wr := ⟨_, rfl⟩
            subst h6
            have HW6 := Lib.hid (ext_upd HW3.out HU.out (fun k hk => by omega))
            have HZ6 := Lib.hid (HU.out.heap HZ3.out (by omega))
            have hB6 : B < w6.heap.size := (Array.getElem?_eq_some_iff.1 HO.out).1
            have hc7 := rcd_bd (nmB kind) (t.extract 0 k) (nW kind)
            obtain ⟨RES, hRES⟩ : ∃ RES, rargs (t.size + 1) (t.data.toList.drop k) [] = RES := ⟨_, rfl⟩
            rw [hRES] at HGO
            have HRS := Lib.hid hRES
            have HO6 := Lib.hid HO.out
            generalize rcd (nmB kind) (t.extract 0 k) (nW kind) = c7 at *
            have CV : Hid (∀ (v : Value) (W : World) (S : Nat → Prop), NumR S W v RES → RES.length ≤ 65 → Calls Tryz.prog 54 #[.int .i64 kind, .agg #[.int .i64 c7, v]] W fun e w' => e = .returned (.bool (validOp kind ⟨c7, RES⟩)) ∧ Ext W w') := fun v W S hN hl => rvop_any kind ⟨c7, RES⟩ v W S hN (by simp only; omega)
            have CT : Hid (∀ (v : Value) (W : World) (S : Nat → Prop), NumR S W v RES → validOp kind ⟨c7, RES⟩ = true → Calls Tryz.prog 55 #[.int .i64 kind, .agg #[.int .i64 c7, v]] W fun e w' => e = .returned (.string (bs (opT kind ⟨c7, RES⟩))) ∧ Ext W w') := fun v W S hN hv => rtext_ok kind ⟨c7, RES⟩ v W S hN hv
            clear HU HO hRES CW HB HF HEX HNM HO3 HZ3 HW3
            go_wp2_with fail
            go_loopg [10] (t.size + 1) (fun gk x wy => ∃ (a : Nat) (acc : List Int) (av : Value), x = .int .i64 a ∧ a ≤ t.size ∧ (t.data.toList.drop a).length < gk ∧ Hid (rargs gk (t.data.toList.drop a) acc = RES) ∧ acc.length ≤ 65 ∧
              Hid (Upd (fun k => k = B) w6 wy) ∧ Hid (wy.heap[B]? = some (.cells #[.int .i64 c7, av] 40 (0, 0))) ∧ Hid (wy.ownsRow w6.heap.size 3 1 av acc.length (nums acc)))
            case atStart => exact ⟨k, [], .slice none 0 0, rfl, hk1, by rw [List.length_drop, len_size]; omega, HRS.out, by decide, Upd.refl _ _, HO6.out, World.ownsRow_nil _ _ _ _⟩
            case round =>
              obtain ⟨a, acc, av, rfl, ha, hf, HK3, h65, HU, HO, HA⟩ := hrel
              have hszr := HU.out.size
              obtain ⟨aa, ac, hav⟩ := own_shape HA.out
              subst hav
              have z8 := cellRow HO.out 0 _ rfl
              have z9 := cellRow HO.out 1 _ rfl
              by_cases hgo : a < t.size ∧ ¬ 64 < acc.length
              · obtain ⟨hat, hal⟩ := hgo
                obtain ⟨g2, rfl⟩ : ∃ g, gk = g + 1 := ⟨gk - 1, by omega⟩
                have s1 : decide ((a : Int) < (t.size : Int)) = true := decide_eq_true (by omega)
                have s1' : decide (a < t.size) = true := decide_eq_true hat
                have s2 : decide ((acc.length : Int) ≤ 64) = true := decide_eq_true (by omega)
                have s2' : decide (acc.length ≤ 64) = true := decide_eq_true (by omega)
                have hk3 := HK3.out
                rw [drop_at t a hat, rargs_go hal] at hk3
                replace HK3 := Lib.hid hk3
                clear hk3
                rw [drop_at t a hat, List.length_cons] at hf
                obtain ⟨wo, ho⟩ : ∃ wo, wo = wr := ⟨_, rfl⟩
                subst ho
                by_cases hm : a + 1 < t.size
                · have s3 : decide ((a : Int) + 1 < (t.size : Int)) = true := decide_eq_true (by omega)
                  have s3' : decide (a + 1 < t.size) = true := decide_eq_true hm
                  have j0 : (0 : Int) ≤ (a : Int) + 1 := by omega
                  have j1 : (a : Int) + 1 < (t.size : Int) := by omega
                  obtain ⟨d, hd⟩ : ∃ d : Nat, (t[a + 1]'hm).toNat = d := ⟨_, rfl⟩
                  have hdr := drop_at t (a + 1) hm
                  by_cases h45 : d = 45
                  · obtain ⟨RN, hRN⟩ : ∃ RN, rnum (t.data.toList.drop (a + 2)) 0 = RN := ⟨_, rfl⟩
                    have HRN := Lib.hid hRN
                    have HON : Hid (rone (t.data.toList.drop (a + 1)) = (-RN.1, RN.2)) := Lib.hid (by
                      rw [hdr, rone, List.headD_cons, if_pos (by rw [eq45 hd]; exact h45), List.tail_cons, hRN])
                    subst h45
                    clear hRN hdr
                    go_wp2_with fail
                    go_loopg [10, 11] (t.size - (a + 2)) (fun gk x y wx => ∃ (b : Nat) (N : Int), x = .int .i64 b ∧ y = .int .i64 N ∧ gk = t.size - b ∧ (a + 2) ≤ b ∧ b ≤ t.size ∧ 0 ≤ N ∧ N ≤ 1048577 ∧ Hid (rnum (t.data.toList.drop b) N = RN) ∧ wx = wo)
                    case atStart => exact ⟨(a + 2), 0, by go_num, rfl, rfl, Nat.le_refl _, by omega, by decide, by decide, HRN.out, rfl⟩
                    case round =>
                      obtain ⟨b, N, rfl, rfl, rfl, hb1, hb2, hN0, hN1, HK4, hwx⟩ := hrel
                      subst hwx
                      by_cases hbl : b < t.size
                      · have t1 : decide ((b : Int) < (t.size : Int)) = true := decide_eq_true (by omega)
                        have t1' : decide (b < t.size) = true := decide_eq_true hbl
                        have hdr := drop_at t b hbl
                        have j0 : (0 : Int) ≤ (b : Int) := by omega
                        have j1 : (b : Int) < (t.size : Int) := by omega
                        obtain ⟨c, hc⟩ : ∃ c : Nat, (t[b]'hbl).toNat = c := ⟨_, rfl⟩
                        have hc255 : c ≤ 255 := by rw [← hc]; have := (t[b]'hbl).toNat_lt; omega
                        have hK4 := HK4.out
                        rw [rnum_at t b hbl hc] at hK4
                        by_cases h32 : c = 32
                        · rw [if_pos h32] at hK4
                          have HRX := Lib.hid hK4
                          clear hK4 HK4 hdr
                          subst h32
                          have HS : Hid (rargs g2 (t.data.toList.drop b) (acc ++ [(-N)]) = RES) := by
                            have := HK3.out
                            rw [HON.out, ← HRX.out] at this
                            exact this
                          have hlb : (t.data.toList.drop b).length < g2 := by
                            have hf2 := hf
                            rw [List.length_drop, len_size] at hf2 ⊢
                            omega
                          have hb9 := HO.out
                          have c8 := cellRow hb9 0 _ rfl
                          have c9 := cellRow hb9 1 _ rfl
                          clear hb9
                          go_wp2_with (at_builtin; refine wpList_append_at _ rfl (.tmp 93) (.tmp 97) 38 rfl w6.heap.size 3 i0 (.int .i64 0) 1 8 Tryz.underlying38 hi hz0 hz1 hz2 rfl (by decide) _ _ _ rfl (own_alloc HA.out _) ⟨wr.heap.size, 0, none⟩ 1 1 [.int .i64 (-N)] rfl rfl ?c1 ?c2 ?c3 ?c4 ?c5 ?_)
                          case c1 =>
                            intro k u hj
                            match k, hj with
                            | 0, hj => simp at hj; subst hj; simp [Addr.add]
                          case c2 => intro u hu; simp at hu; subst hu; rfl
                          case c3 => unfold maxLen; omega
                          case c4 => omega
                          case c5 => simp; omega
                          intro av' w10 hG
                          have HG := Lib.hid hG
                          have HU10 : Hid (Upd (fun k => k = B) w6 w10) := (HU.out.alloc _).trans' HG.out.upd (fun k hk he => by
                            have h1 := HA.out.lt k (by simpa [Value.ownBlock] using he)
                            omega)
                          have hb10 : w10.heap[B]? = some (.cells #[.int .i64 c7, .slice aa acc.length ac] 40 (0, 0)) := HG.out.upd.heap (allocOld HO.out _) (fun he => by
                            have h1 := HA.out.lt B (by simpa [Value.ownBlock] using he)
                            omega)
                          have HB10 := Lib.hid hb10
                          have m1 := frozenRow hb10 1
                          have m0 := cellRow hb10 1 _ rfl
                          obtain ⟨ba, bc, hbv⟩ := own_shape HG.out.own
                          subst hbv
                          have HA10 := Lib.hid HG.out.own
                          have HW10 : Hid ((Value.slice ba (acc.length + 1) bc).ownBlock ≠ some B) := fun h => by
                            have h1 := HA10.out.lt B h
                            omega
                          clear hG hb10 c8 c9
                          go_wp2_with fail
                          have el : (acc ++ [(-N)]).length = acc.length + 1 := by simp
                          go_roundg g2
                          case measure => omega
                          case rel =>
                            refine ⟨b, acc ++ [(-N)], .slice ba (acc.length + 1) bc, rfl, by omega, hlb, HS, by omega, HU10.out.setCell (p := ⟨B, 1, none⟩) (.inl rfl) _, ?_, ?_⟩
                            · exact setBlock HB10.out 1 (.slice ba (acc.length + 1) bc)
                            · rw [nums_append, el]
                              exact own_kept HA10.out (updAt (w := w10) (g := B) (j := 1) _) (fun k hk he => HW10.out (by rw [hk, he]))
                        · rw [if_neg h32] at hK4
                          have n1 : ((c : Int) == 32) = false := beq_eq_false_iff_ne.2 (by omega)
                          have n2 : ((c : Int) != 32) = true := bne_iff_ne.2 (by omega)
                          have n3 : (c == 32) = false := beq_eq_false_iff_ne.2 (by omega)
                          have n4 : (c != 32) = true := bne_iff_ne.2 (by omega)
                          obtain ⟨M1, hM1⟩ : ∃ M : Int, min (10 * N + (c : Int) - 48) 1048577 = M := ⟨_, rfl⟩
                          obtain ⟨M2, hM2⟩ : ∃ M : Int, max M1 0 = M := ⟨_, rfl⟩
                          rw [hM1, hM2] at hK4
                          have HK5 := Lib.hid hK4
                          have hM0 : 0 ≤ M2 := by omega
                          have hM3 : M2 ≤ 1048577 := by omega
                          have HM1 := Lib.hid hM1
                          have HM2 := Lib.hid hM2
                          clear hK4 HK4 hdr hM1 hM2
                          go_wp2_with (with_reducible (refine stop_at (o := ⟨some 87, _, _, _, _, _⟩) ?_))
                          refine Stop.go ?_
                          refine wpList_run rfl (v := .int .i64 M1) (w' := wr) ?_ ?_
                          · go_simp
                            exact HM1.out
                          go_wp2_with (with_reducible (refine stop_at (o := ⟨some 89, _, _, _, _, _⟩) ?_))
                          refine Stop.go ?_
                          refine wpList_run rfl (v := .int .i64 M2) (w' := wr) ?_ ?_
                          · go_simp
                            exact HM2.out
                          go_wp2_with fail
                          go_roundg (t.size - (b + 1))
                          case measure => omega
                          case rel => exact ⟨b + 1, M2, by go_num, rfl, rfl, by omega, by omega, hM0, hM3, HK5, rfl⟩
                      · have t1 : decide ((b : Int) < (t.size : Int)) = false := decide_eq_false (by omega)
                        have t1' : decide (b < t.size) = false := decide_eq_false hbl
                        have hdr : t.data.toList.drop b = [] := List.drop_eq_nil_of_le (by rw [len_size]; omega)
                        have hK4 := HK4.out
                        rw [hdr] at hK4
                        have HRX : Hid ((N, t.data.toList.drop b) = RN) := by rw [hdr]; exact hK4
                        clear hK4 HK4 hdr
                        have HS : Hid (rargs g2 (t.data.toList.drop b) (acc ++ [(-N)]) = RES) := by
                          have := HK3.out
                          rw [HON.out, ← HRX.out] at this
                          exact this
                        have hlb : (t.data.toList.drop b).length < g2 := by
                          have hf2 := hf
                          rw [List.length_drop, len_size] at hf2 ⊢
                          omega
                        have hb9 := HO.out
                        have c8 := cellRow hb9 0 _ rfl
                        have c9 := cellRow hb9 1 _ rfl
                        clear hb9
                        go_wp2_with (at_builtin; refine wpList_append_at _ rfl (.tmp 93) (.tmp 97) 38 rfl w6.heap.size 3 i0 (.int .i64 0) 1 8 Tryz.underlying38 hi hz0 hz1 hz2 rfl (by decide) _ _ _ rfl (own_alloc HA.out _) ⟨wr.heap.size, 0, none⟩ 1 1 [.int .i64 (-N)] rfl rfl ?c1 ?c2 ?c3 ?c4 ?c5 ?_)
                        case c1 =>
                          intro k u hj
                          match k, hj with
                          | 0, hj => simp at hj; subst hj; simp [Addr.add]
                        case c2 => intro u hu; simp at hu; subst hu; rfl
                        case c3 => unfold maxLen; omega
                        case c4 => omega
                        case c5 => simp; omega
                        intro av' w10 hG
                        have HG := Lib.hid hG
                        have HU10 : Hid (Upd (fun k => k = B) w6 w10) := (HU.out.alloc _).trans' HG.out.upd (fun k hk he => by
                          have h1 := HA.out.lt k (by simpa [Value.ownBlock] using he)
                          omega)
                        have hb10 : w10.heap[B]? = some (.cells #[.int .i64 c7, .slice aa acc.length ac] 40 (0, 0)) := HG.out.upd.heap (allocOld HO.out _) (fun he => by
                          have h1 := HA.out.lt B (by simpa [Value.ownBlock] using he)
                          omega)
                        have HB10 := Lib.hid hb10
                        have m1 := frozenRow hb10 1
                        have m0 := cellRow hb10 1 _ rfl
                        obtain ⟨ba, bc, hbv⟩ := own_shape HG.out.own
                        subst hbv
                        have HA10 := Lib.hid HG.out.own
                        have HW10 : Hid ((Value.slice ba (acc.length + 1) bc).ownBlock ≠ some B) := fun h => by
                          have h1 := HA10.out.lt B h
                          omega
                        clear hG hb10 c8 c9
                        go_wp2_with fail
                        have el : (acc ++ [(-N)]).length = acc.length + 1 := by simp
                        go_roundg g2
                        case measure => omega
                        case rel =>
                          refine ⟨b, acc ++ [(-N)], .slice ba (acc.length + 1) bc, rfl, by omega, hlb, HS, by omega, HU10.out.setCell (p := ⟨B, 1, none⟩) (.inl rfl) _, ?_, ?_⟩
                          · exact setBlock HB10.out 1 (.slice ba (acc.length + 1) bc)
                          · rw [nums_append, el]
                            exact own_kept HA10.out (updAt (w := w10) (g := B) (j := 1) _) (fun k hk he => HW10.out (by rw [hk, he]))
                  · have HON0 : rone (t.data.toList.drop (a + 1)) = rnum (t.data.toList.drop (a + 1)) 0 := by
                      rw [hdr, rone, List.headD_cons, if_neg (by rw [eq45 hd]; exact h45)]
                    obtain ⟨RN, hRN⟩ : ∃ RN, rnum (t.data.toList.drop (a + 1)) 0 = RN := ⟨_, rfl⟩
                    have HRN := Lib.hid hRN
                    have HON : Hid (rone (t.data.toList.drop (a + 1)) = (RN.1, RN.2)) := Lib.hid (by rw [HON0, hRN])
                    have m1 : ((d : Int) == 45) = false := beq_eq_false_iff_ne.2 (by omega)
                    have m2 : ((d : Int) != 45) = true := bne_iff_ne.2 (by omega)
                    have m3 : (d == 45) = false := beq_eq_false_iff_ne.2 (by omega)
                    have m4 : (d != 45) = true := bne_iff_ne.2 (by omega)
                    clear hRN hdr HON0
                    go_wp2_with fail
                    go_loopg [10, 11] (t.size - (a + 1)) (fun gk x y wx => ∃ (b : Nat) (N : Int), x = .int .i64 b ∧ y = .int .i64 N ∧ gk = t.size - b ∧ (a + 1) ≤ b ∧ b ≤ t.size ∧ 0 ≤ N ∧ N ≤ 1048577 ∧ Hid (rnum (t.data.toList.drop b) N = RN) ∧ wx = wo)
                    case atStart => exact ⟨(a + 1), 0, by go_num, rfl, rfl, Nat.le_refl _, by omega, by decide, by decide, HRN.out, rfl⟩
                    case round =>
                      obtain ⟨b, N, rfl, rfl, rfl, hb1, hb2, hN0, hN1, HK4, hwx⟩ := hrel
                      subst hwx
                      by_cases hbl : b < t.size
                      · have t1 : decide ((b : Int) < (t.size : Int)) = true := decide_eq_true (by omega)
                        have t1' : decide (b < t.size) = true := decide_eq_true hbl
                        have hdr := drop_at t b hbl
                        have j0 : (0 : Int) ≤ (b : Int) := by omega
                        have j1 : (b : Int) < (t.size : Int) := by omega
                        obtain ⟨c, hc⟩ : ∃ c : Nat, (t[b]'hbl).toNat = c := ⟨_, rfl⟩
                        have hc255 : c ≤ 255 := by rw [← hc]; have := (t[b]'hbl).toNat_lt; omega
                        have hK4 := HK4.out
                        rw [rnum_at t b hbl hc] at hK4
                        by_cases h32 : c = 32
                        · rw [if_pos h32] at hK4
                          have HRX := Lib.hid hK4
                          clear hK4 HK4 hdr
                          subst h32
                          have HS : Hid (rargs g2 (t.data.toList.drop b) (acc ++ [N]) = RES) := by
                            have := HK3.out
                            rw [HON.out, ← HRX.out] at this
                            exact this
                          have hlb : (t.data.toList.drop b).length < g2 := by
                            have hf2 := hf
                            rw [List.length_drop, len_size] at hf2 ⊢
                            omega
                          have hb9 := HO.out
                          have c8 := cellRow hb9 0 _ rfl
                          have c9 := cellRow hb9 1 _ rfl
                          clear hb9
                          go_wp2_with (at_builtin; refine wpList_append_at _ rfl (.tmp 93) (.tmp 97) 38 rfl w6.heap.size 3 i0 (.int .i64 0) 1 8 Tryz.underlying38 hi hz0 hz1 hz2 rfl (by decide) _ _ _ rfl (own_alloc HA.out _) ⟨wr.heap.size, 0, none⟩ 1 1 [.int .i64 N] rfl rfl ?c1 ?c2 ?c3 ?c4 ?c5 ?_)
                          case c1 =>
                            intro k u hj
                            match k, hj with
                            | 0, hj => simp at hj; subst hj; simp [Addr.add]
                          case c2 => intro u hu; simp at hu; subst hu; rfl
                          case c3 => unfold maxLen; omega
                          case c4 => omega
                          case c5 => simp; omega
                          intro av' w10 hG
                          have HG := Lib.hid hG
                          have HU10 : Hid (Upd (fun k => k = B) w6 w10) := (HU.out.alloc _).trans' HG.out.upd (fun k hk he => by
                            have h1 := HA.out.lt k (by simpa [Value.ownBlock] using he)
                            omega)
                          have hb10 : w10.heap[B]? = some (.cells #[.int .i64 c7, .slice aa acc.length ac] 40 (0, 0)) := HG.out.upd.heap (allocOld HO.out _) (fun he => by
                            have h1 := HA.out.lt B (by simpa [Value.ownBlock] using he)
                            omega)
                          have HB10 := Lib.hid hb10
                          have m1 := frozenRow hb10 1
                          have m0 := cellRow hb10 1 _ rfl
                          obtain ⟨ba, bc, hbv⟩ := own_shape HG.out.own
                          subst hbv
                          have HA10 := Lib.hid HG.out.own
                          have HW10 : Hid ((Value.slice ba (acc.length + 1) bc).ownBlock ≠ some B) := fun h => by
                            have h1 := HA10.out.lt B h
                            omega
                          clear hG hb10 c8 c9
                          go_wp2_with fail
                          have el : (acc ++ [N]).length = acc.length + 1 := by simp
                          go_roundg g2
                          case measure => omega
                          case rel =>
                            refine ⟨b, acc ++ [N], .slice ba (acc.length + 1) bc, rfl, by omega, hlb, HS, by omega, HU10.out.setCell (p := ⟨B, 1, none⟩) (.inl rfl) _, ?_, ?_⟩
                            · exact setBlock HB10.out 1 (.slice ba (acc.length + 1) bc)
                            · rw [nums_append, el]
                              exact own_kept HA10.out (updAt (w := w10) (g := B) (j := 1) _) (fun k hk he => HW10.out (by rw [hk, he]))
                        · rw [if_neg h32] at hK4
                          have n1 : ((c : Int) == 32) = false := beq_eq_false_iff_ne.2 (by omega)
                          have n2 : ((c : Int) != 32) = true := bne_iff_ne.2 (by omega)
                          have n3 : (c == 32) = false := beq_eq_false_iff_ne.2 (by omega)
                          have n4 : (c != 32) = true := bne_iff_ne.2 (by omega)
                          obtain ⟨M1, hM1⟩ : ∃ M : Int, min (10 * N + (c : Int) - 48) 1048577 = M := ⟨_, rfl⟩
                          obtain ⟨M2, hM2⟩ : ∃ M : Int, max M1 0 = M := ⟨_, rfl⟩
                          rw [hM1, hM2] at hK4
                          have HK5 := Lib.hid hK4
                          have hM0 : 0 ≤ M2 := by omega
                          have hM3 : M2 ≤ 1048577 := by omega
                          have HM1 := Lib.hid hM1
                          have HM2 := Lib.hid hM2
                          clear hK4 HK4 hdr hM1 hM2
                          go_wp2_with (with_reducible (refine stop_at (o := ⟨some 87, _, _, _, _, _⟩) ?_))
                          refine Stop.go ?_
                          refine wpList_run rfl (v := .int .i64 M1) (w' := wr) ?_ ?_
                          · go_simp
                            exact HM1.out
                          go_wp2_with (with_reducible (refine stop_at (o := ⟨some 89, _, _, _, _, _⟩) ?_))
                          refine Stop.go ?_
                          refine wpList_run rfl (v := .int .i64 M2) (w' := wr) ?_ ?_
                          · go_simp
                            exact HM2.out
                          go_wp2_with fail
                          go_roundg (t.size - (b + 1))
                          case measure => omega
                          case rel => exact ⟨b + 1, M2, by go_num, rfl, rfl, by omega, by omega, hM0, hM3, HK5, rfl⟩
                      · have t1 : decide ((b : Int) < (t.size : Int)) = false := decide_eq_false (by omega)
                        have t1' : decide (b < t.size) = false := decide_eq_false hbl
                        have hdr : t.data.toList.drop b = [] := List.drop_eq_nil_of_le (by rw [len_size]; omega)
                        have hK4 := HK4.out
                        rw [hdr] at hK4
                        have HRX : Hid ((N, t.data.toList.drop b) = RN) := by rw [hdr]; exact hK4
                        clear hK4 HK4 hdr
                        have HS : Hid (rargs g2 (t.data.toList.drop b) (acc ++ [N]) = RES) := by
                          have := HK3.out
                          rw [HON.out, ← HRX.out] at this
                          exact this
                        have hlb : (t.data.toList.drop b).length < g2 := by
                          have hf2 := hf
                          rw [List.length_drop, len_size] at hf2 ⊢
                          omega
                        have hb9 := HO.out
                        have c8 := cellRow hb9 0 _ rfl
                        have c9 := cellRow hb9 1 _ rfl
                        clear hb9
                        go_wp2_with (at_builtin; refine wpList_append_at _ rfl (.tmp 93) (.tmp 97) 38 rfl w6.heap.size 3 i0 (.int .i64 0) 1 8 Tryz.underlying38 hi hz0 hz1 hz2 rfl (by decide) _ _ _ rfl (own_alloc HA.out _) ⟨wr.heap.size, 0, none⟩ 1 1 [.int .i64 N] rfl rfl ?c1 ?c2 ?c3 ?c4 ?c5 ?_)
                        case c1 =>
                          intro k u hj
                          match k, hj with
                          | 0, hj => simp at hj; subst hj; simp [Addr.add]
                        case c2 => intro u hu; simp at hu; subst hu; rfl
                        case c3 => unfold maxLen; omega
                        case c4 => omega
                        case c5 => simp; omega
                        intro av' w10 hG
                        have HG := Lib.hid hG
                        have HU10 : Hid (Upd (fun k => k = B) w6 w10) := (HU.out.alloc _).trans' HG.out.upd (fun k hk he => by
                          have h1 := HA.out.lt k (by simpa [Value.ownBlock] using he)
                          omega)
                        have hb10 : w10.heap[B]? = some (.cells #[.int .i64 c7, .slice aa acc.length ac] 40 (0, 0)) := HG.out.upd.heap (allocOld HO.out _) (fun he => by
                          have h1 := HA.out.lt B (by simpa [Value.ownBlock] using he)
                          omega)
                        have HB10 := Lib.hid hb10
                        have m1 := frozenRow hb10 1
                        have m0 := cellRow hb10 1 _ rfl
                        obtain ⟨ba, bc, hbv⟩ := own_shape HG.out.own
                        subst hbv
                        have HA10 := Lib.hid HG.out.own
                        have HW10 : Hid ((Value.slice ba (acc.length + 1) bc).ownBlock ≠ some B) := fun h => by
                          have h1 := HA10.out.lt B h
                          omega
                        clear hG hb10 c8 c9
                        go_wp2_with fail
                        have el : (acc ++ [N]).length = acc.length + 1 := by simp
                        go_roundg g2
                        case measure => omega
                        case rel =>
                          refine ⟨b, acc ++ [N], .slice ba (acc.length + 1) bc, rfl, by omega, hlb, HS, by omega, HU10.out.setCell (p := ⟨B, 1, none⟩) (.inl rfl) _, ?_, ?_⟩
                          · exact setBlock HB10.out 1 (.slice ba (acc.length + 1) bc)
                          · rw [nums_append, el]
                            exact own_kept HA10.out (updAt (w := w10) (g := B) (j := 1) _) (fun k hk he => HW10.out (by rw [hk, he]))
                · have s3 : decide ((a : Int) + 1 < (t.size : Int)) = false := decide_eq_false (by omega)
                  have s3' : decide (a + 1 < t.size) = false := decide_eq_false hm
                  have hdr : t.data.toList.drop (a + 1) = [] := List.drop_eq_nil_of_le (by rw [len_size]; omega)
                  obtain ⟨RN, hRN⟩ : ∃ RN, rnum (t.data.toList.drop (a + 1)) 0 = RN := ⟨_, rfl⟩
                  have HRN := Lib.hid hRN
                  have HON : Hid (rone (t.data.toList.drop (a + 1)) = (RN.1, RN.2)) := Lib.hid (by rw [← hRN, hdr]; rfl)
                  clear hRN hdr
                  go_wp2_with fail
                  go_loopg [10, 11] (t.size - (a + 1)) (fun gk x y wx => ∃ (b : Nat) (N : Int), x = .int .i64 b ∧ y = .int .i64 N ∧ gk = t.size - b ∧ (a + 1) ≤ b ∧ b ≤ t.size ∧ 0 ≤ N ∧ N ≤ 1048577 ∧ Hid (rnum (t.data.toList.drop b) N = RN) ∧ wx = wo)
                  case atStart => exact ⟨(a + 1), 0, by go_num, rfl, rfl, Nat.le_refl _, by omega, by decide, by decide, HRN.out, rfl⟩
                  case round =>
                    obtain ⟨b, N, rfl, rfl, rfl, hb1, hb2, hN0, hN1, HK4, hwx⟩ := hrel
                    subst hwx
                    by_cases hbl : b < t.size
                    · exfalso
                      omega
                    · have t1 : decide ((b : Int) < (t.size : Int)) = false := decide_eq_false (by omega)
                      have t1' : decide (b < t.size) = false := decide_eq_false hbl
                      have hdr : t.data.toList.drop b = [] := List.drop_eq_nil_of_le (by rw [len_size]; omega)
                      have hK4 := HK4.out
                      rw [hdr] at hK4
                      have HRX : Hid ((N, t.data.toList.drop b) = RN) := by rw [hdr]; exact hK4
                      clear hK4 HK4 hdr
                      have HS : Hid (rargs g2 (t.data.toList.drop b) (acc ++ [N]) = RES) := by
                        have := HK3.out
                        rw [HON.out, ← HRX.out] at this
                        exact this
                      have hlb : (t.data.toList.drop b).length < g2 := by
                        have hf2 := hf
                        rw [List.length_drop, len_size] at hf2 ⊢
                        omega
                      have hb9 := HO.out
                      have c8 := cellRow hb9 0 _ rfl
                      have c9 := cellRow hb9 1 _ rfl
                      clear hb9
                      go_wp2_with (at_builtin; refine wpList_append_at _ rfl (.tmp 93) (.tmp 97) 38 rfl w6.heap.size 3 i0 (.int .i64 0) 1 8 Tryz.underlying38 hi hz0 hz1 hz2 rfl (by decide) _ _ _ rfl (own_alloc HA.out _) ⟨wr.heap.size, 0, none⟩ 1 1 [.int .i64 N] rfl rfl ?c1 ?c2 ?c3 ?c4 ?c5 ?_)
                      case c1 =>
                        intro k u hj
                        match k, hj with
                        | 0, hj => simp at hj; subst hj; simp [Addr.add]
                      case c2 => intro u hu; simp at hu; subst hu; rfl
                      case c3 => unfold maxLen; omega
                      case c4 => omega
                      case c5 => simp; omega
                      intro av' w10 hG
                      have HG := Lib.hid hG
                      have HU10 : Hid (Upd (fun k => k = B) w6 w10) := (HU.out.alloc _).trans' HG.out.upd (fun k hk he => by
                        have h1 := HA.out.lt k (by simpa [Value.ownBlock] using he)
                        omega)
                      have hb10 : w10.heap[B]? = some (.cells #[.int .i64 c7, .slice aa acc.length ac] 40 (0, 0)) := HG.out.upd.heap (allocOld HO.out _) (fun he => by
                        have h1 := HA.out.lt B (by simpa [Value.ownBlock] using he)
                        omega)
                      have HB10 := Lib.hid hb10
                      have m1 := frozenRow hb10 1
                      have m0 := cellRow hb10 1 _ rfl
                      obtain ⟨ba, bc, hbv⟩ := own_shape HG.out.own
                      subst hbv
                      have HA10 := Lib.hid HG.out.own
                      have HW10 : Hid ((Value.slice ba (acc.length + 1) bc).ownBlock ≠ some B) := fun h => by
                        have h1 := HA10.out.lt B h
                        omega
                      clear hG hb10 c8 c9
                      go_wp2_with fail
                      have el : (acc ++ [N]).length = acc.length + 1 := by simp
                      go_roundg g2
                      case measure => omega
                      case rel =>
                        refine ⟨b, acc ++ [N], .slice ba (acc.length + 1) bc, rfl, by omega, hlb, HS, by omega, HU10.out.setCell (p := ⟨B, 1, none⟩) (.inl rfl) _, ?_, ?_⟩
                        · exact setBlock HB10.out 1 (.slice ba (acc.length + 1) bc)
                        · rw [nums_append, el]
                          exact own_kept HA10.out (updAt (w := w10) (g := B) (j := 1) _) (fun k hk he => HW10.out (by rw [hk, he]))
              · have hres : acc = RES := by
                  rw [← HK3.out]
                  refine (rargs_stop hf ?_).symm
                  by_cases h : a < t.size
                  · right; exact Classical.not_not.1 (fun e => hgo ⟨h, e⟩)
                  · left; exact List.drop_eq_nil_of_le (by rw [len_size]; omega)
                subst hres
                have HNV : Hid (NumR (fun k => w6.heap.size ≤ k) wr (.slice aa acc.length ac) acc) := (SlR.of_own HA.out).weaken (fun k hk => (HA.out.lt k (by simpa [Value.ownBlock] using hk)).1)
                have HWr := Lib.hid (ext_upd HW6.out HU.out (fun k hk => by omega))
                have HZr := Lib.hid (HU.out.heap HZ6.out (by omega))
                have CV2 := Lib.hid (CV.out _ wr _ HNV.out h65)
                by_cases hat : a < t.size
                · have s1 : decide ((a : Int) < (t.size : Int)) = true := decide_eq_true (by omega)
                  have s1' : decide (a < t.size) = true := decide_eq_true hat
                  have h64 : 64 < acc.length := Classical.not_not.1 (fun e => hgo ⟨hat, e⟩)
                  have s2 : decide ((acc.length : Int) ≤ 64) = false := decide_eq_false (by omega)
                  have s2' : decide (acc.length ≤ 64) = false := decide_eq_false (by omega)
                  cases hv : validOp kind ⟨c7, acc⟩ with
                  | false =>
                    rw [hv] at CV2
                    have NG : Hid (∀ o, ¬ Good kind t o) := fun o ho => by
                      have h1 := HGO.out o ho
                      have h2 := ho.1
                      rw [← h1, hv] at h2
                      cases h2
                    clear hv
                    go_wp2_with fail
                    refine CV2.out.mono ?_
                    rintro e w9 ⟨rfl, h9⟩
                    have HE9 := Lib.hid h9
                    clear h9 z8 z9
                    have hz6 := HE9.out.heap HZr.out (fun h => h)
                    have z0 := cellRow hz6 0 _ rfl
                    have z1 := cellRow hz6 1 _ rfl
                    have m0 := frozenRow hz6 0
                    have m1 := frozenRow hz6 1
                    have hfin := setBlock (setBlock hz6 0 (.int .i64 0)) 1 (.slice none 0 0)
                    have y0 := cellRow hfin 0 _ rfl
                    have y1 := cellRow hfin 1 _ rfl
                    clear hz6 hfin
                    simp at y0 y1
                    go_wp2_with fail
                    refine bodyPost_ret (v := .tuple #[.agg #[.int .i64 0, .slice none 0 0], .bool false]) (by simp [results, Tryz.results26, go_sem, z0, z1, y0, y1]) rfl (Or.inr ⟨NG.out, rfl, ?_⟩)
                    exact ((HWr.out.ext HE9.out).setNew (Nat.le_refl _) _).setNew (Nat.le_refl _) _
                  | true =>
                    rw [hv] at CV2
                    go_wp2_with fail
                    refine CV2.out.mono ?_
                    rintro e w9 ⟨rfl, h9⟩
                    have HE9 := Lib.hid h9
                    clear h9 z8 z9
                    have hb9 := HE9.out.heap HO.out (fun h => h)
                    have z8 := cellRow hb9 0 _ rfl
                    have z9 := cellRow hb9 1 _ rfl
                    have CT2 := Lib.hid (CT.out _ w9 _ (HNV.out.kept HE9.out (fun _ _ h => h)) hv)
                    obtain ⟨T, hT⟩ : ∃ T, bs (opT kind ⟨c7, acc⟩) = T := ⟨_, rfl⟩
                    rw [hT] at CT2
                    by_cases hTt : T = t
                    · have HGG : Hid (Good kind t ⟨c7, acc⟩) := ⟨hv, by rw [hT, hTt]⟩
                      have b1 : (T.toList == t.toList) = true := (Lib.bytes_beq_iff _ _).2 hTt
                      have b2 : (T.toList != t.toList) = false := by rw [bne, b1]; rfl
                      clear hb9 hv hT hTt
                      go_wp2_with fail
                      refine CT2.out.mono ?_
                      rintro e w10 ⟨rfl, h10⟩
                      have HE10 := Lib.hid (HE9.out.ext h10)
                      clear h10 z8 z9
                      have hb10 := HE10.out.heap HO.out (fun h => h)
                      have z8 := cellRow hb10 0 _ rfl
                      have z9 := cellRow hb10 1 _ rfl
                      have hz6 := HE10.out.heap HZr.out (fun h => h)
                      have z0 := cellRow hz6 0 _ rfl
                      have z1 := cellRow hz6 1 _ rfl
                      have m0 := frozenRow hz6 0
                      have m1 := frozenRow hz6 1
                      have hfin := setBlock (setBlock hz6 0 (.int .i64 c7)) 1 (.slice aa acc.length ac)
                      have y0 := cellRow hfin 0 _ rfl
                      have y1 := cellRow hfin 1 _ rfl
                      clear hz6 hfin hb10
                      simp at y0 y1
                      go_wp2_with fail
                      refine bodyPost_ret (v := .tuple #[.agg #[.int .i64 c7, .slice aa acc.length ac], .bool true]) (by simp [results, Tryz.results26, go_sem, z0, z1, y0, y1]) rfl (Or.inl ⟨⟨c7, acc⟩, _, HGG.out, rfl, ?_, ?_⟩)
                      · have hk1 := (HNV.out.kept HE10.out (fun _ _ h => h)).kept (updAt (w := w10) (g := w.heap.size) (j := 0) (.int .i64 c7)) (fun k hk he => by omega)
                        have hk2 := SlR.kept hk1 (updAt (g := w.heap.size) (j := 1) (.slice aa acc.length ac)) (fun k hk he => by omega)
                        exact SlR.weaken hk2 (fun k hk => by omega)
                      · exact ((HWr.out.ext HE10.out).setNew (Nat.le_refl _) _).setNew (Nat.le_refl _) _
                    · have NG : Hid (∀ o, ¬ Good kind t o) := fun o ho => by
                        have h1 := HGO.out o ho
                        have h2 := ho.2
                        rw [← h1, hT] at h2
                        exact hTt h2
                      have b1 : (T.toList == t.toList) = false := (Lib.bytes_beq_false_iff _ _).2 hTt
                      have b2 : (T.toList != t.toList) = true := by rw [bne, b1]; rfl
                      clear hb9 hv hT hTt
                      go_wp2_with fail
                      refine CT2.out.mono ?_
                      rintro e w10 ⟨rfl, h10⟩
                      have HE10 := Lib.hid (HE9.out.ext h10)
                      clear h10 z8 z9
                      have hz6 := HE10.out.heap HZr.out (fun h => h)
                      have z0 := cellRow hz6 0 _ rfl
                      have z1 := cellRow hz6 1 _ rfl
                      have m0 := frozenRow hz6 0
                      have m1 := frozenRow hz6 1
                      have hfin := setBlock (setBlock hz6 0 (.int .i64 0)) 1 (.slice none 0 0)
                      have y0 := cellRow hfin 0 _ rfl
                      have y1 := cellRow hfin 1 _ rfl
                      clear hz6 hfin
                      simp at y0 y1
                      go_wp2_with fail
                      refine bodyPost_ret (v := .tuple #[.agg #[.int .i64 0, .slice none 0 0], .bool false]) (by simp [results, Tryz.results26, go_sem, z0, z1, y0, y1]) rfl (Or.inr ⟨NG.out, rfl, ?_⟩)
                      exact ((HWr.out.ext HE10.out).setNew (Nat.le_refl _) _).setNew (Nat.le_refl _) _
                · have s1 : decide ((a : Int) < (t.size : Int)) = false := decide_eq_false (by omega)
                  have s1' : decide (a < t.size) = false := decide_eq_false hat
                  cases hv : validOp kind ⟨c7, acc⟩ with
                  | false =>
                    rw [hv] at CV2
                    have NG : Hid (∀ o, ¬ Good kind t o) := fun o ho => by
                      have h1 := HGO.out o ho
                      have h2 := ho.1
                      rw [← h1, hv] at h2
                      cases h2
                    clear hv
                    go_wp2_with fail
                    refine CV2.out.mono ?_
                    rintro e w9 ⟨rfl, h9⟩
                    have HE9 := Lib.hid h9
                    clear h9 z8 z9
                    have hz6 := HE9.out.heap HZr.out (fun h => h)
                    have z0 := cellRow hz6 0 _ rfl
                    have z1 := cellRow hz6 1 _ rfl
                    have m0 := frozenRow hz6 0
                    have m1 := frozenRow hz6 1
                    have hfin := setBlock (setBlock hz6 0 (.int .i64 0)) 1 (.slice none 0 0)
                    have y0 := cellRow hfin 0 _ rfl
                    have y1 := cellRow hfin 1 _ rfl
                    clear hz6 hfin
                    simp at y0 y1
                    go_wp2_with fail
                    refine bodyPost_ret (v := .tuple #[.agg #[.int .i64 0, .slice none 0 0], .bool false]) (by simp [results, Tryz.results26, go_sem, z0, z1, y0, y1]) rfl (Or.inr ⟨NG.out, rfl, ?_⟩)
                    exact ((HWr.out.ext HE9.out).setNew (Nat.le_refl _) _).setNew (Nat.le_refl _) _
                  | true =>
                    rw [hv] at CV2
                    go_wp2_with fail
                    refine CV2.out.mono ?_
                    rintro e w9 ⟨rfl, h9⟩
                    have HE9 := Lib.hid h9
                    clear h9 z8 z9
                    have hb9 := HE9.out.heap HO.out (fun h => h)
                    have z8 := cellRow hb9 0 _ rfl
                    have z9 := cellRow hb9 1 _ rfl
                    have CT2 := Lib.hid (CT.out _ w9 _ (HNV.out.kept HE9.out (fun _ _ h => h)) hv)
                    obtain ⟨T, hT⟩ : ∃ T, bs (opT kind ⟨c7, acc⟩) = T := ⟨_, rfl⟩
                    rw [hT] at CT2
                    by_cases hTt : T = t
                    · have HGG : Hid (Good kind t ⟨c7, acc⟩) := ⟨hv, by rw [hT, hTt]⟩
                      have b1 : (T.toList == t.toList) = true := (Lib.bytes_beq_iff _ _).2 hTt
                      have b2 : (T.toList != t.toList) = false := by rw [bne, b1]; rfl
                      clear hb9 hv hT hTt
                      go_wp2_with fail
                      refine CT2.out.mono ?_
                      rintro e w10 ⟨rfl, h10⟩
                      have HE10 := Lib.hid (HE9.out.ext h10)
                      clear h10 z8 z9
                      have hb10 := HE10.out.heap HO.out (fun h => h)
                      have z8 := cellRow hb10 0 _ rfl
                      have z9 := cellRow hb10 1 _ rfl
                      have hz6 := HE10.out.heap HZr.out (fun h => h)
                      have z0 := cellRow hz6 0 _ rfl
                      have z1 := cellRow hz6 1 _ rfl
                      have m0 := frozenRow hz6 0
                      have m1 := frozenRow hz6 1
                      have hfin := setBlock (setBlock hz6 0 (.int .i64 c7)) 1 (.slice aa acc.length ac)
                      have y0 := cellRow hfin 0 _ rfl
                      have y1 := cellRow hfin 1 _ rfl
                      clear hz6 hfin hb10
                      simp at y0 y1
                      go_wp2_with fail
                      refine bodyPost_ret (v := .tuple #[.agg #[.int .i64 c7, .slice aa acc.length ac], .bool true]) (by simp [results, Tryz.results26, go_sem, z0, z1, y0, y1]) rfl (Or.inl ⟨⟨c7, acc⟩, _, HGG.out, rfl, ?_, ?_⟩)
                      · have hk1 := (HNV.out.kept HE10.out (fun _ _ h => h)).kept (updAt (w := w10) (g := w.heap.size) (j := 0) (.int .i64 c7)) (fun k hk he => by omega)
                        have hk2 := SlR.kept hk1 (updAt (g := w.heap.size) (j := 1) (.slice aa acc.length ac)) (fun k hk he => by omega)
                        exact SlR.weaken hk2 (fun k hk => by omega)
                      · exact ((HWr.out.ext HE10.out).setNew (Nat.le_refl _) _).setNew (Nat.le_refl _) _
                    · have NG : Hid (∀ o, ¬ Good kind t o) := fun o ho => by
                        have h1 := HGO.out o ho
                        have h2 := ho.2
                        rw [← h1, hT] at h2
                        exact hTt h2
                      have b1 : (T.toList == t.toList) = false := (Lib.bytes_beq_false_iff _ _).2 hTt
                      have b2 : (T.toList != t.toList) = true := by rw [bne, b1]; rfl
                      clear hb9 hv hT hTt
                      go_wp2_with fail
                      refine CT2.out.mono ?_
                      rintro e w10 ⟨rfl, h10⟩
                      have HE10 := Lib.hid (HE9.out.ext h10)
                      clear h10 z8 z9
                      have hz6 := HE10.out.heap HZr.out (fun h => h)
                      have z0 := cellRow hz6 0 _ rfl
                      have z1 := cellRow hz6 1 _ rfl
                      have m0 := frozenRow hz6 0
                      have m1 := frozenRow hz6 1
                      have hfin := setBlock (setBlock hz6 0 (.int .i64 0)) 1 (.slice none 0 0)
                      have y0 := cellRow hfin 0 _ rfl
                      have y1 := cellRow hfin 1 _ rfl
                      clear hz6 hfin
                      simp at y0 y1
                      go_wp2_with fail
                      refine bodyPost_ret (v := .tuple #[.agg #[.int .i64 0, .slice none 0 0], .bool false]) (by simp [results, Tryz.results26, go_sem, z0, z1, y0, y1]) rfl (Or.inr ⟨NG.out, rfl, ?_⟩)
                      exact ((HWr.out.ext HE10.out).setNew (Nat.le_refl _) _).setNew (Nat.le_refl _) _
      · have t1 : decide ((k : Int) < (t.size : Int)) = false := decide_eq_false (by omega)
        have t1' : decide (k < t.size) = false := decide_eq_false hkz
        have HE2 : Hid (Ext wx (wx.alloc (.cells #[.int .i64 0, .slice none 0 0] 40))) := (Upd.refl _ wx).alloc _
        have HB2 := Lib.hid (alloc0 wx (.cells #[.int .i64 0, .slice none 0 0] 40))
        go_wp2_with fail
        refine (CW.out _).mono ?_
        rintro e w3 ⟨v, rfl, hwn⟩
        obtain ⟨g, rfl, hcell⟩ := hwn.row
        have HE3 := Lib.hid (HE2.out.ext hwn.ext)
        have HO3 := Lib.hid (hwn.ext.heap HB2.out (fun h => h))
        have HZ3 := Lib.hid (HB.out _ HE3.out)
        have HW3 := Lib.hid (HZ.out.ext HE3.out)
        have HNM : Hid (∀ i, i < nW kind → w3.cell? ⟨g, i, none⟩ = some (.string ((nmB kind).getD i ByteArray.empty))) := fun i hi => by rw [nmB_get kind i hi]; exact hcell i hi
        obtain ⟨B, hBe⟩ : ∃ B, wx.heap.size = B := ⟨_, rfl⟩
        rw [hBe] at HO3 ⊢
        have hBw : w.heap.size < B := by
          have h1 := HWX.out
          omega
        have hB3 : B < w3.heap.size := (Array.getElem?_eq_some_iff.1 HO3.out).1
        have hnw : 0 < nW kind := (nW_known kind).2 hk
        have hgB : g ≠ B := fun e => by
          have h1 := HNM.out 0 hnw
          rw [e, cellRow HO3.out 0 _ rfl] at h1
          injection h1 with h1
          cases h1
        clear hcell hwn hBe HE2 HB2 HE3
        have kk0 : (0 : Int) ≤ (k : Int) := by omega
        have kk1 : (k : Int) ≤ (t.size : Int) := by omega
        go_wp2_with fail
        go_loopg [9] (nW kind) (fun gk x wy => ∃ j : Nat, x = .int .i64 j ∧ gk = nW kind - j ∧ j ≤ nW kind ∧ Hid (Upd (fun k => k = B) w3 wy) ∧ Hid (wy.heap[B]? = some (.cells #[.int .i64 (rcd (nmB kind) (t.extract 0 k) j), .slice none 0 0] 40 (0, 0))))
        case atStart => exact ⟨0, rfl, rfl, Nat.zero_le _, Upd.refl _ _, HO3.out⟩
        case round =>
          obtain ⟨j, rfl, rfl, hj, HU, HO⟩ := hrel
          by_cases hjn : j < nW kind
          · have c0 := HU.out.cell (HNM.out j hjn) hgB
            have i0' : (0 : Int) ≤ (j : Int) := by omega
            have i1' : (j : Int) < (nW kind : Int) := by omega
            have z0 := cellRow HO.out 0 _ rfl
            have z1 := frozenRow HO.out 0
            by_cases hX : (nmB kind).getD j ByteArray.empty = t.extract 0 k
            · have b1 : (((nmB kind).getD j ByteArray.empty).toList == (t.extract 0 k).toList) = true := (Lib.bytes_beq_iff _ _).2 hX
              have HR : Hid (rcd (nmB kind) (t.extract 0 k) (j + 1) = (j : Int) + 1) := Lib.hid (by rw [rcd, if_pos hX])
              clear hX
              generalize (nmB kind).getD j ByteArray.empty = Y at *
              generalize rcd (nmB kind) (t.extract 0 k) j = c7 at *
              go_wp2_with fail
              go_quiet (fail)
              go_wp2_with fail
              go_roundg (nW kind - (j + 1))
              case measure => omega
              case rel =>
                refine ⟨j + 1, by go_num, rfl, by omega, (HU.out.drewN' _).setCell (p := ⟨B, 0, none⟩) (.inl rfl) _, ?_⟩
                rw [HR.out]
                exact setBlock (w := World.drewN _ _) HO.out 0 (.int .i64 ((j : Int) + 1))
            · have b1 : (((nmB kind).getD j ByteArray.empty).toList == (t.extract 0 k).toList) = false := (Lib.bytes_beq_false_iff _ _).2 hX
              have HR : Hid (rcd (nmB kind) (t.extract 0 k) (j + 1) = rcd (nmB kind) (t.extract 0 k) j) := Lib.hid (by rw [rcd, if_neg hX])
              clear hX
              generalize (nmB kind).getD j ByteArray.empty = Y at *
              go_wp2_with fail
              go_quiet (fail)
              go_wp2_with fail
              go_roundg (nW kind - (j + 1))
              case measure => omega
              case rel =>
                refine ⟨j + 1, by go_num, rfl, by omega, HU.out.drewN' _, ?_⟩
                rw [HR.out]
                exact HO.out
          · obtain rfl : j = nW kind := by omega
            obtain ⟨w6, h6⟩ : ∃ w6, w6 = wr := ⟨_, rfl⟩
            subst h6
            have HW6 := Lib.hid (ext_upd HW3.out HU.out (fun k hk => by omega))
            have HZ6 := Lib.hid (HU.out.heap HZ3.out (by omega))
            have hB6 : B < w6.heap.size := (Array.getElem?_eq_some_iff.1 HO.out).1
            have hc7 := rcd_bd (nmB kind) (t.extract 0 k) (nW kind)
            obtain ⟨RES, hRES⟩ : ∃ RES, rargs (t.size + 1) (t.data.toList.drop k) [] = RES := ⟨_, rfl⟩
            rw [hRES] at HGO
            have HRS := Lib.hid hRES
            have HO6 := Lib.hid HO.out
            generalize rcd (nmB kind) (t.extract 0 k) (nW kind) = c7 at *
            have CV : Hid (∀ (v : Value) (W : World) (S : Nat → Prop), NumR S W v RES → RES.length ≤ 65 → Calls Tryz.prog 54 #[.int .i64 kind, .agg #[.int .i64 c7, v]] W fun e w' => e = .returned (.bool (validOp kind ⟨c7, RES⟩)) ∧ Ext W w') := fun v W S hN hl => rvop_any kind ⟨c7, RES⟩ v W S hN (by simp only; omega)
            have CT : Hid (∀ (v : Value) (W : World) (S : Nat → Prop), NumR S W v RES → validOp kind ⟨c7, RES⟩ = true → Calls Tryz.prog 55 #[.int .i64 kind, .agg #[.int .i64 c7, v]] W fun e w' => e = .returned (.string (bs (opT kind ⟨c7, RES⟩))) ∧ Ext W w') := fun v W S hN hv => rtext_ok kind ⟨c7, RES⟩ v W S hN hv
            clear HU HO hRES CW HB HF HEX HNM HO3 HZ3 HW3
            go_wp2_with fail
            go_loopg [10] (t.size + 1) (fun gk x wy => ∃ (a : Nat) (acc : List Int) (av : Value), x = .int .i64 a ∧ a ≤ t.size ∧ (t.data.toList.drop a).length < gk ∧ Hid (rargs gk (t.data.toList.drop a) acc = RES) ∧ acc.length ≤ 65 ∧
              Hid (Upd (fun k => k = B) w6 wy) ∧ Hid (wy.heap[B]? = some (.cells #[.int .i64 c7, av] 40 (0, 0))) ∧ Hid (wy.ownsRow w6.heap.size 3 1 av acc.length (nums acc)))
            case atStart => exact ⟨k, [], .slice none 0 0, rfl, hk1, by rw [List.length_drop, len_size]; omega, HRS.out, by decide, Upd.refl _ _, HO6.out, World.ownsRow_nil _ _ _ _⟩
            case round =>
              obtain ⟨a, acc, av, rfl, ha, hf, HK3, h65, HU, HO, HA⟩ := hrel
              have hszr := HU.out.size
              obtain ⟨aa, ac, hav⟩ := own_shape HA.out
              subst hav
              have z8 := cellRow HO.out 0 _ rfl
              have z9 := cellRow HO.out 1 _ rfl
              by_cases hgo : a < t.size ∧ ¬ 64 < acc.length
              · obtain ⟨hat, hal⟩ := hgo
                obtain ⟨g2, rfl⟩ : ∃ g, gk = g + 1 := ⟨gk - 1, by omega⟩
                have s1 : decide ((a : Int) < (t.size : Int)) = true := decide_eq_true (by omega)
                have s1' : decide (a < t.size) = true := decide_eq_true hat
                have s2 : decide ((acc.length : Int) ≤ 64) = true := decide_eq_true (by omega)
                have s2' : decide (acc.length ≤ 64) = true := decide_eq_true (by omega)
                have hk3 := HK3.out
                rw [drop_at t a hat, rargs_go hal] at hk3
                replace HK3 := Lib.hid hk3
                clear hk3
                rw [drop_at t a hat, List.length_cons] at hf
                obtain ⟨wo, ho⟩ : ∃ wo, wo = wr := ⟨_, rfl⟩
                subst ho
                by_cases hm : a + 1 < t.size
                · have s3 : decide ((a : Int) + 1 < (t.size : Int)) = true := decide_eq_true (by omega)
                  have s3' : decide (a + 1 < t.size) = true := decide_eq_true hm
                  have j0 : (0 : Int) ≤ (a : Int) + 1 := by omega
                  have j1 : (a : Int) + 1 < (t.size : Int) := by omega
                  obtain ⟨d, hd⟩ : ∃ d : Nat, (t[a + 1]'hm).toNat = d := ⟨_, rfl⟩
                  have hdr := drop_at t (a + 1) hm
                  by_cases h45 : d = 45
                  · obtain ⟨RN, hRN⟩ : ∃ RN, rnum (t.data.toList.drop (a + 2)) 0 = RN := ⟨_, rfl⟩
                    have HRN := Lib.hid hRN
                    have HON : Hid (rone (t.data.toList.drop (a + 1)) = (-RN.1, RN.2)) := Lib.hid (by
                      rw [hdr, rone, List.headD_cons, if_pos (by rw [eq45 hd]; exact h45), List.tail_cons, hRN])
                    subst h45
                    clear hRN hdr
                    go_wp2_with fail
                    go_loopg [10, 11] (t.size - (a + 2)) (fun gk x y wx => ∃ (b : Nat) (N : Int), x = .int .i64 b ∧ y = .int .i64 N ∧ gk = t.size - b ∧ (a + 2) ≤ b ∧ b ≤ t.size ∧ 0 ≤ N ∧ N ≤ 1048577 ∧ Hid (rnum (t.data.toList.drop b) N = RN) ∧ wx = wo)
                    case atStart => exact ⟨(a + 2), 0, by go_num, rfl, rfl, Nat.le_refl _, by omega, by decide, by decide, HRN.out, rfl⟩
                    case round =>
                      obtain ⟨b, N, rfl, rfl, rfl, hb1, hb2, hN0, hN1, HK4, hwx⟩ := hrel
                      subst hwx
                      by_cases hbl : b < t.size
                      · have t1 : decide ((b : Int) < (t.size : Int)) = true := decide_eq_true (by omega)
                        have t1' : decide (b < t.size) = true := decide_eq_true hbl
                        have hdr := drop_at t b hbl
                        have j0 : (0 : Int) ≤ (b : Int) := by omega
                        have j1 : (b : Int) < (t.size : Int) := by omega
                        obtain ⟨c, hc⟩ : ∃ c : Nat, (t[b]'hbl).toNat = c := ⟨_, rfl⟩
                        have hc255 : c ≤ 255 := by rw [← hc]; have := (t[b]'hbl).toNat_lt; omega
                        have hK4 := HK4.out
                        rw [rnum_at t b hbl hc] at hK4
                        by_cases h32 : c = 32
                        · rw [if_pos h32] at hK4
                          have HRX := Lib.hid hK4
                          clear hK4 HK4 hdr
                          subst h32
                          have HS : Hid (rargs g2 (t.data.toList.drop b) (acc ++ [(-N)]) = RES) := by
                            have := HK3.out
                            rw [HON.out, ← HRX.out] at this
                            exact this
                          have hlb : (t.data.toList.drop b).length < g2 := by
                            have hf2 := hf
                            rw [List.length_drop, len_size] at hf2 ⊢
                            omega
                          have hb9 := HO.out
                          have c8 := cellRow hb9 0 _ rfl
                          have c9 := cellRow hb9 1 _ rfl
                          clear hb9
                          go_wp2_with (at_builtin; refine wpList_append_at _ rfl (.tmp 93) (.tmp 97) 38 rfl w6.heap.size 3 i0 (.int .i64 0) 1 8 Tryz.underlying38 hi hz0 hz1 hz2 rfl (by decide) _ _ _ rfl (own_alloc HA.out _) ⟨wr.heap.size, 0, none⟩ 1 1 [.int .i64 (-N)] rfl rfl ?c1 ?c2 ?c3 ?c4 ?c5 ?_)
                          case c1 =>
                            intro k u hj
                            match k, hj with
                            | 0, hj => simp at hj; subst hj; simp [Addr.add]
                          case c2 => intro u hu; simp at hu; subst hu; rfl
                          case c3 => unfold maxLen; omega
                          case c4 => omega
                          case c5 => simp; omega
                          intro av' w10 hG
                          have HG := Lib.hid hG
                          have HU10 : Hid (Upd (fun k => k = B) w6 w10) := (HU.out.alloc _).trans' HG.out.upd (fun k hk he => by
                            have h1 := HA.out.lt k (by simpa [Value.ownBlock] using he)
                            omega)
                          have hb10 : w10.heap[B]? = some (.cells #[.int .i64 c7, .slice aa acc.length ac] 40 (0, 0)) := HG.out.upd.heap (allocOld HO.out _) (fun he => by
                            have h1 := HA.out.lt B (by simpa [Value.ownBlock] using he)
                            omega)
                          have HB10 := Lib.hid hb10
                          have m1 := frozenRow hb10 1
                          have m0 := cellRow hb10 1 _ rfl
                          obtain ⟨ba, bc, hbv⟩ := own_shape HG.out.own
                          subst hbv
                          have HA10 := Lib.hid HG.out.own
                          have HW10 : Hid ((Value.slice ba (acc.length + 1) bc).ownBlock ≠ some B) := fun h => by
                            have h1 := HA10.out.lt B h
                            omega
                          clear hG hb10 c8 c9
                          go_wp2_with fail
                          have el : (acc ++ [(-N)]).length = acc.length + 1 := by simp
                          go_roundg g2
                          case measure => omega
                          case rel =>
                            refine ⟨b, acc ++ [(-N)], .slice ba (acc.length + 1) bc, rfl, by omega, hlb, HS, by omega, HU10.out.setCell (p := ⟨B, 1, none⟩) (.inl rfl) _, ?_, ?_⟩
                            · exact setBlock HB10.out 1 (.slice ba (acc.length + 1) bc)
                            · rw [nums_append, el]
                              exact own_kept HA10.out (updAt (w := w10) (g := B) (j := 1) _) (fun k hk he => HW10.out (by rw [hk, he]))
                        · rw [if_neg h32] at hK4
                          have n1 : ((c : Int) == 32) = false := beq_eq_false_iff_ne.2 (by omega)
                          have n2 : ((c : Int) != 32) = true := bne_iff_ne.2 (by omega)
                          have n3 : (c == 32) = false := beq_eq_false_iff_ne.2 (by omega)
                          have n4 : (c != 32) = true := bne_iff_ne.2 (by omega)
                          obtain ⟨M1, hM1⟩ : ∃ M : Int, min (10 * N + (c : Int) - 48) 1048577 = M := ⟨_, rfl⟩
                          obtain ⟨M2, hM2⟩ : ∃ M : Int, max M1 0 = M := ⟨_, rfl⟩
                          rw [hM1, hM2] at hK4
                          have HK5 := Lib.hid hK4
                          have hM0 : 0 ≤ M2 := by omega
                          have hM3 : M2 ≤ 1048577 := by omega
                          have HM1 := Lib.hid hM1
                          have HM2 := Lib.hid hM2
                          clear hK4 HK4 hdr hM1 hM2
                          go_wp2_with (with_reducible (refine stop_at (o := ⟨some 87, _, _, _, _, _⟩) ?_))
                          refine Stop.go ?_
                          refine wpList_run rfl (v := .int .i64 M1) (w' := wr) ?_ ?_
                          · go_simp
                            exact HM1.out
                          go_wp2_with (with_reducible (refine stop_at (o := ⟨some 89, _, _, _, _, _⟩) ?_))
                          refine Stop.go ?_
                          refine wpList_run rfl (v := .int .i64 M2) (w' := wr) ?_ ?_
                          · go_simp
                            exact HM2.out
                          go_wp2_with fail
                          go_roundg (t.size - (b + 1))
                          case measure => omega
                          case rel => exact ⟨b + 1, M2, by go_num, rfl, rfl, by omega, by omega, hM0, hM3, HK5, rfl⟩
                      · have t1 : decide ((b : Int) < (t.size : Int)) = false := decide_eq_false (by omega)
                        have t1' : decide (b < t.size) = false := decide_eq_false hbl
                        have hdr : t.data.toList.drop b = [] := List.drop_eq_nil_of_le (by rw [len_size]; omega)
                        have hK4 := HK4.out
                        rw [hdr] at hK4
                        have HRX : Hid ((N, t.data.toList.drop b) = RN) := by rw [hdr]; exact hK4
                        clear hK4 HK4 hdr
                        have HS : Hid (rargs g2 (t.data.toList.drop b) (acc ++ [(-N)]) = RES) := by
                          have := HK3.out
                          rw [HON.out, ← HRX.out] at this
                          exact this
                        have hlb : (t.data.toList.drop b).length < g2 := by
                          have hf2 := hf
                          rw [List.length_drop, len_size] at hf2 ⊢
                          omega
                        have hb9 := HO.out
                        have c8 := cellRow hb9 0 _ rfl
                        have c9 := cellRow hb9 1 _ rfl
                        clear hb9
                        go_wp2_with (at_builtin; refine wpList_append_at _ rfl (.tmp 93) (.tmp 97) 38 rfl w6.heap.size 3 i0 (.int .i64 0) 1 8 Tryz.underlying38 hi hz0 hz1 hz2 rfl (by decide) _ _ _ rfl (own_alloc HA.out _) ⟨wr.heap.size, 0, none⟩ 1 1 [.int .i64 (-N)] rfl rfl ?c1 ?c2 ?c3 ?c4 ?c5 ?_)
                        case c1 =>
                          intro k u hj
                          match k, hj with
                          | 0, hj => simp at hj; subst hj; simp [Addr.add]
                        case c2 => intro u hu; simp at hu; subst hu; rfl
                        case c3 => unfold maxLen; omega
                        case c4 => omega
                        case c5 => simp; omega
                        intro av' w10 hG
                        have HG := Lib.hid hG
                        have HU10 : Hid (Upd (fun k => k = B) w6 w10) := (HU.out.alloc _).trans' HG.out.upd (fun k hk he => by
                          have h1 := HA.out.lt k (by simpa [Value.ownBlock] using he)
                          omega)
                        have hb10 : w10.heap[B]? = some (.cells #[.int .i64 c7, .slice aa acc.length ac] 40 (0, 0)) := HG.out.upd.heap (allocOld HO.out _) (fun he => by
                          have h1 := HA.out.lt B (by simpa [Value.ownBlock] using he)
                          omega)
                        have HB10 := Lib.hid hb10
                        have m1 := frozenRow hb10 1
                        have m0 := cellRow hb10 1 _ rfl
                        obtain ⟨ba, bc, hbv⟩ := own_shape HG.out.own
                        subst hbv
                        have HA10 := Lib.hid HG.out.own
                        have HW10 : Hid ((Value.slice ba (acc.length + 1) bc).ownBlock ≠ some B) := fun h => by
                          have h1 := HA10.out.lt B h
                          omega
                        clear hG hb10 c8 c9
                        go_wp2_with fail
                        have el : (acc ++ [(-N)]).length = acc.length + 1 := by simp
                        go_roundg g2
                        case measure => omega
                        case rel =>
                          refine ⟨b, acc ++ [(-N)], .slice ba (acc.length + 1) bc, rfl, by omega, hlb, HS, by omega, HU10.out.setCell (p := ⟨B, 1, none⟩) (.inl rfl) _, ?_, ?_⟩
                          · exact setBlock HB10.out 1 (.slice ba (acc.length + 1) bc)
                          · rw [nums_append, el]
                            exact own_kept HA10.out (updAt (w := w10) (g := B) (j := 1) _) (fun k hk he => HW10.out (by rw [hk, he]))
                  · have HON0 : rone (t.data.toList.drop (a + 1)) = rnum (t.data.toList.drop (a + 1)) 0 := by
                      rw [hdr, rone, List.headD_cons, if_neg (by rw [eq45 hd]; exact h45)]
                    obtain ⟨RN, hRN⟩ : ∃ RN, rnum (t.data.toList.drop (a + 1)) 0 = RN := ⟨_, rfl⟩
                    have HRN := Lib.hid hRN
                    have HON : Hid (rone (t.data.toList.drop (a + 1)) = (RN.1, RN.2)) := Lib.hid (by rw [HON0, hRN])
                    have m1 : ((d : Int) == 45) = false := beq_eq_false_iff_ne.2 (by omega)
                    have m2 : ((d : Int) != 45) = true := bne_iff_ne.2 (by omega)
                    have m3 : (d == 45) = false := beq_eq_false_iff_ne.2 (by omega)
                    have m4 : (d != 45) = true := bne_iff_ne.2 (by omega)
                    clear hRN hdr HON0
                    go_wp2_with fail
                    go_loopg [10, 11] (t.size - (a + 1)) (fun gk x y wx => ∃ (b : Nat) (N : Int), x = .int .i64 b ∧ y = .int .i64 N ∧ gk = t.size - b ∧ (a + 1) ≤ b ∧ b ≤ t.size ∧ 0 ≤ N ∧ N ≤ 1048577 ∧ Hid (rnum (t.data.toList.drop b) N = RN) ∧ wx = wo)
                    case atStart => exact ⟨(a + 1), 0, by go_num, rfl, rfl, Nat.le_refl _, by omega, by decide, by decide, HRN.out, rfl⟩
                    case round =>
                      obtain ⟨b, N, rfl, rfl, rfl, hb1, hb2, hN0, hN1, HK4, hwx⟩ := hrel
                      subst hwx
                      by_cases hbl : b < t.size
                      · have t1 : decide ((b : Int) < (t.size : Int)) = true := decide_eq_true (by omega)
                        have t1' : decide (b < t.size) = true := decide_eq_true hbl
                        have hdr := drop_at t b hbl
                        have j0 : (0 : Int) ≤ (b : Int) := by omega
                        have j1 : (b : Int) < (t.size : Int) := by omega
                        obtain ⟨c, hc⟩ : ∃ c : Nat, (t[b]'hbl).toNat = c := ⟨_, rfl⟩
                        have hc255 : c ≤ 255 := by rw [← hc]; have := (t[b]'hbl).toNat_lt; omega
                        have hK4 := HK4.out
                        rw [rnum_at t b hbl hc] at hK4
                        by_cases h32 : c = 32
                        · rw [if_pos h32] at hK4
                          have HRX := Lib.hid hK4
                          clear hK4 HK4 hdr
                          subst h32
                          have HS : Hid (rargs g2 (t.data.toList.drop b) (acc ++ [N]) = RES) := by
                            have := HK3.out
                            rw [HON.out, ← HRX.out] at this
                            exact this
                          have hlb : (t.data.toList.drop b).length < g2 := by
                            have hf2 := hf
                            rw [List.length_drop, len_size] at hf2 ⊢
                            omega
                          have hb9 := HO.out
                          have c8 := cellRow hb9 0 _ rfl
                          have c9 := cellRow hb9 1 _ rfl
                          clear hb9
                          go_wp2_with (at_builtin; refine wpList_append_at _ rfl (.tmp 93) (.tmp 97) 38 rfl w6.heap.size 3 i0 (.int .i64 0) 1 8 Tryz.underlying38 hi hz0 hz1 hz2 rfl (by decide) _ _ _ rfl (own_alloc HA.out _) ⟨wr.heap.size, 0, none⟩ 1 1 [.int .i64 N] rfl rfl ?c1 ?c2 ?c3 ?c4 ?c5 ?_)
                          case c1 =>
                            intro k u hj
                            match k, hj with
                            | 0, hj => simp at hj; subst hj; simp [Addr.add]
                          case c2 => intro u hu; simp at hu; subst hu; rfl
                          case c3 => unfold maxLen; omega
                          case c4 => omega
                          case c5 => simp; omega
                          intro av' w10 hG
                          have HG := Lib.hid hG
                          have HU10 : Hid (Upd (fun k => k = B) w6 w10) := (HU.out.alloc _).trans' HG.out.upd (fun k hk he => by
                            have h1 := HA.out.lt k (by simpa [Value.ownBlock] using he)
                            omega)
                          have hb10 : w10.heap[B]? = some (.cells #[.int .i64 c7, .slice aa acc.length ac] 40 (0, 0)) := HG.out.upd.heap (allocOld HO.out _) (fun he => by
                            have h1 := HA.out.lt B (by simpa [Value.ownBlock] using he)
                            omega)
                          have HB10 := Lib.hid hb10
                          have m1 := frozenRow hb10 1
                          have m0 := cellRow hb10 1 _ rfl
                          obtain ⟨ba, bc, hbv⟩ := own_shape HG.out.own
                          subst hbv
                          have HA10 := Lib.hid HG.out.own
                          have HW10 : Hid ((Value.slice ba (acc.length + 1) bc).ownBlock ≠ some B) := fun h => by
                            have h1 := HA10.out.lt B h
                            omega
                          clear hG hb10 c8 c9
                          go_wp2_with fail
                          have el : (acc ++ [N]).length = acc.length + 1 := by simp
                          go_roundg g2
                          case measure => omega
                          case rel =>
                            refine ⟨b, acc ++ [N], .slice ba (acc.length + 1) bc, rfl, by omega, hlb, HS, by omega, HU10.out.setCell (p := ⟨B, 1, none⟩) (.inl rfl) _, ?_, ?_⟩
                            · exact setBlock HB10.out 1 (.slice ba (acc.length + 1) bc)
                            · rw [nums_append, el]
                              exact own_kept HA10.out (updAt (w := w10) (g := B) (j := 1) _) (fun k hk he => HW10.out (by rw [hk, he]))
                        · rw [if_neg h32] at hK4
                          have n1 : ((c : Int) == 32) = false := beq_eq_false_iff_ne.2 (by omega)
                          have n2 : ((c : Int) != 32) = true := bne_iff_ne.2 (by omega)
                          have n3 : (c == 32) = false := beq_eq_false_iff_ne.2 (by omega)
                          have n4 : (c != 32) = true := bne_iff_ne.2 (by omega)
                          obtain ⟨M1, hM1⟩ : ∃ M : Int, min (10 * N + (c : Int) - 48) 1048577 = M := ⟨_, rfl⟩
                          obtain ⟨M2, hM2⟩ : ∃ M : Int, max M1 0 = M := ⟨_, rfl⟩
                          rw [hM1, hM2] at hK4
                          have HK5 := Lib.hid hK4
                          have hM0 : 0 ≤ M2 := by omega
                          have hM3 : M2 ≤ 1048577 := by omega
                          have HM1 := Lib.hid hM1
                          have HM2 := Lib.hid hM2
                          clear hK4 HK4 hdr hM1 hM2
                          go_wp2_with (with_reducible (refine stop_at (o := ⟨some 87, _, _, _, _, _⟩) ?_))
                          refine Stop.go ?_
                          refine wpList_run rfl (v := .int .i64 M1) (w' := wr) ?_ ?_
                          · go_simp
                            exact HM1.out
                          go_wp2_with (with_reducible (refine stop_at (o := ⟨some 89, _, _, _, _, _⟩) ?_))
                          refine Stop.go ?_
                          refine wpList_run rfl (v := .int .i64 M2) (w' := wr) ?_ ?_
                          · go_simp
                            exact HM2.out
                          go_wp2_with fail
                          go_roundg (t.size - (b + 1))
                          case measure => omega
                          case rel => exact ⟨b + 1, M2, by go_num, rfl, rfl, by omega, by omega, hM0, hM3, HK5, rfl⟩
                      · have t1 : decide ((b : Int) < (t.size : Int)) = false := decide_eq_false (by omega)
                        have t1' : decide (b < t.size) = false := decide_eq_false hbl
                        have hdr : t.data.toList.drop b = [] := List.drop_eq_nil_of_le (by rw [len_size]; omega)
                        have hK4 := HK4.out
                        rw [hdr] at hK4
                        have HRX : Hid ((N, t.data.toList.drop b) = RN) := by rw [hdr]; exact hK4
                        clear hK4 HK4 hdr
                        have HS : Hid (rargs g2 (t.data.toList.drop b) (acc ++ [N]) = RES) := by
                          have := HK3.out
                          rw [HON.out, ← HRX.out] at this
                          exact this
                        have hlb : (t.data.toList.drop b).length < g2 := by
                          have hf2 := hf
                          rw [List.length_drop, len_size] at hf2 ⊢
                          omega
                        have hb9 := HO.out
                        have c8 := cellRow hb9 0 _ rfl
                        have c9 := cellRow hb9 1 _ rfl
                        clear hb9
                        go_wp2_with (at_builtin; refine wpList_append_at _ rfl (.tmp 93) (.tmp 97) 38 rfl w6.heap.size 3 i0 (.int .i64 0) 1 8 Tryz.underlying38 hi hz0 hz1 hz2 rfl (by decide) _ _ _ rfl (own_alloc HA.out _) ⟨wr.heap.size, 0, none⟩ 1 1 [.int .i64 N] rfl rfl ?c1 ?c2 ?c3 ?c4 ?c5 ?_)
                        case c1 =>
                          intro k u hj
                          match k, hj with
                          | 0, hj => simp at hj; subst hj; simp [Addr.add]
                        case c2 => intro u hu; simp at hu; subst hu; rfl
                        case c3 => unfold maxLen; omega
                        case c4 => omega
                        case c5 => simp; omega
                        intro av' w10 hG
                        have HG := Lib.hid hG
                        have HU10 : Hid (Upd (fun k => k = B) w6 w10) := (HU.out.alloc _).trans' HG.out.upd (fun k hk he => by
                          have h1 := HA.out.lt k (by simpa [Value.ownBlock] using he)
                          omega)
                        have hb10 : w10.heap[B]? = some (.cells #[.int .i64 c7, .slice aa acc.length ac] 40 (0, 0)) := HG.out.upd.heap (allocOld HO.out _) (fun he => by
                          have h1 := HA.out.lt B (by simpa [Value.ownBlock] using he)
                          omega)
                        have HB10 := Lib.hid hb10
                        have m1 := frozenRow hb10 1
                        have m0 := cellRow hb10 1 _ rfl
                        obtain ⟨ba, bc, hbv⟩ := own_shape HG.out.own
                        subst hbv
                        have HA10 := Lib.hid HG.out.own
                        have HW10 : Hid ((Value.slice ba (acc.length + 1) bc).ownBlock ≠ some B) := fun h => by
                          have h1 := HA10.out.lt B h
                          omega
                        clear hG hb10 c8 c9
                        go_wp2_with fail
                        have el : (acc ++ [N]).length = acc.length + 1 := by simp
                        go_roundg g2
                        case measure => omega
                        case rel =>
                          refine ⟨b, acc ++ [N], .slice ba (acc.length + 1) bc, rfl, by omega, hlb, HS, by omega, HU10.out.setCell (p := ⟨B, 1, none⟩) (.inl rfl) _, ?_, ?_⟩
                          · exact setBlock HB10.out 1 (.slice ba (acc.length + 1) bc)
                          · rw [nums_append, el]
                            exact own_kept HA10.out (updAt (w := w10) (g := B) (j := 1) _) (fun k hk he => HW10.out (by rw [hk, he]))
                · have s3 : decide ((a : Int) + 1 < (t.size : Int)) = false := decide_eq_false (by omega)
                  have s3' : decide (a + 1 < t.size) = false := decide_eq_false hm
                  have hdr : t.data.toList.drop (a + 1) = [] := List.drop_eq_nil_of_le (by rw [len_size]; omega)
                  obtain ⟨RN, hRN⟩ : ∃ RN, rnum (t.data.toList.drop (a + 1)) 0 = RN := ⟨_, rfl⟩
                  have HRN := Lib.hid hRN
                  have HON : Hid (rone (t.data.toList.drop (a + 1)) = (RN.1, RN.2)) := Lib.hid (by rw [← hRN, hdr]; rfl)
                  clear hRN hdr
                  go_wp2_with fail
                  go_loopg [10, 11] (t.size - (a + 1)) (fun gk x y wx => ∃ (b : Nat) (N : Int), x = .int .i64 b ∧ y = .int .i64 N ∧ gk = t.size - b ∧ (a + 1) ≤ b ∧ b ≤ t.size ∧ 0 ≤ N ∧ N ≤ 1048577 ∧ Hid (rnum (t.data.toList.drop b) N = RN) ∧ wx = wo)
                  case atStart => exact ⟨(a + 1), 0, by go_num, rfl, rfl, Nat.le_refl _, by omega, by decide, by decide, HRN.out, rfl⟩
                  case round =>
                    obtain ⟨b, N, rfl, rfl, rfl, hb1, hb2, hN0, hN1, HK4, hwx⟩ := hrel
                    subst hwx
                    by_cases hbl : b < t.size
                    · exfalso
                      omega
                    · have t1 : decide ((b : Int) < (t.size : Int)) = false := decide_eq_false (by omega)
                      have t1' : decide (b < t.size) = false := decide_eq_false hbl
                      have hdr : t.data.toList.drop b = [] := List.drop_eq_nil_of_le (by rw [len_size]; omega)
                      have hK4 := HK4.out
                      rw [hdr] at hK4
                      have HRX : Hid ((N, t.data.toList.drop b) = RN) := by rw [hdr]; exact hK4
                      clear hK4 HK4 hdr
                      have HS : Hid (rargs g2 (t.data.toList.drop b) (acc ++ [N]) = RES) := by
                        have := HK3.out
                        rw [HON.out, ← HRX.out] at this
                        exact this
                      have hlb : (t.data.toList.drop b).length < g2 := by
                        have hf2 := hf
                        rw [List.length_drop, len_size] at hf2 ⊢
                        omega
                      have hb9 := HO.out
                      have c8 := cellRow hb9 0 _ rfl
                      have c9 := cellRow hb9 1 _ rfl
                      clear hb9
                      go_wp2_with (at_builtin; refine wpList_append_at _ rfl (.tmp 93) (.tmp 97) 38 rfl w6.heap.size 3 i0 (.int .i64 0) 1 8 Tryz.underlying38 hi hz0 hz1 hz2 rfl (by decide) _ _ _ rfl (own_alloc HA.out _) ⟨wr.heap.size, 0, none⟩ 1 1 [.int .i64 N] rfl rfl ?c1 ?c2 ?c3 ?c4 ?c5 ?_)
                      case c1 =>
                        intro k u hj
                        match k, hj with
                        | 0, hj => simp at hj; subst hj; simp [Addr.add]
                      case c2 => intro u hu; simp at hu; subst hu; rfl
                      case c3 => unfold maxLen; omega
                      case c4 => omega
                      case c5 => simp; omega
                      intro av' w10 hG
                      have HG := Lib.hid hG
                      have HU10 : Hid (Upd (fun k => k = B) w6 w10) := (HU.out.alloc _).trans' HG.out.upd (fun k hk he => by
                        have h1 := HA.out.lt k (by simpa [Value.ownBlock] using he)
                        omega)
                      have hb10 : w10.heap[B]? = some (.cells #[.int .i64 c7, .slice aa acc.length ac] 40 (0, 0)) := HG.out.upd.heap (allocOld HO.out _) (fun he => by
                        have h1 := HA.out.lt B (by simpa [Value.ownBlock] using he)
                        omega)
                      have HB10 := Lib.hid hb10
                      have m1 := frozenRow hb10 1
                      have m0 := cellRow hb10 1 _ rfl
                      obtain ⟨ba, bc, hbv⟩ := own_shape HG.out.own
                      subst hbv
                      have HA10 := Lib.hid HG.out.own
                      have HW10 : Hid ((Value.slice ba (acc.length + 1) bc).ownBlock ≠ some B) := fun h => by
                        have h1 := HA10.out.lt B h
                        omega
                      clear hG hb10 c8 c9
                      go_wp2_with fail
                      have el : (acc ++ [N]).length = acc.length + 1 := by simp
                      go_roundg g2
                      case measure => omega
                      case rel =>
                        refine ⟨b, acc ++ [N], .slice ba (acc.length + 1) bc, rfl, by omega, hlb, HS, by omega, HU10.out.setCell (p := ⟨B, 1, none⟩) (.inl rfl) _, ?_, ?_⟩
                        · exact setBlock HB10.out 1 (.slice ba (acc.length + 1) bc)
                        · rw [nums_append, el]
                          exact own_kept HA10.out (updAt (w := w10) (g := B) (j := 1) _) (fun k hk he => HW10.out (by rw [hk, he]))
              · have hres : acc = RES := by
                  rw [← HK3.out]
                  refine (rargs_stop hf ?_).symm
                  by_cases h : a < t.size
                  · right; exact Classical.not_not.1 (fun e => hgo ⟨h, e⟩)
                  · left; exact List.drop_eq_nil_of_le (by rw [len_size]; omega)
                subst hres
                have HNV : Hid (NumR (fun k => w6.heap.size ≤ k) wr (.slice aa acc.length ac) acc) := (SlR.of_own HA.out).weaken (fun k hk => (HA.out.lt k (by simpa [Value.ownBlock] using hk)).1)
                have HWr := Lib.hid (ext_upd HW6.out HU.out (fun k hk => by omega))
                have HZr := Lib.hid (HU.out.heap HZ6.out (by omega))
                have CV2 := Lib.hid (CV.out _ wr _ HNV.out h65)
                by_cases hat : a < t.size
                · have s1 : decide ((a : Int) < (t.size : Int)) = true := decide_eq_true (by omega)
                  have s1' : decide (a < t.size) = true := decide_eq_true hat
                  have h64 : 64 < acc.length := Classical.not_not.1 (fun e => hgo ⟨hat, e⟩)
                  have s2 : decide ((acc.length : Int) ≤ 64) = false := decide_eq_false (by omega)
                  have s2' : decide (acc.length ≤ 64) = false := decide_eq_false (by omega)
                  cases hv : validOp kind ⟨c7, acc⟩ with
                  | false =>
                    rw [hv] at CV2
                    have NG : Hid (∀ o, ¬ Good kind t o) := fun o ho => by
                      have h1 := HGO.out o ho
                      have h2 := ho.1
                      rw [← h1, hv] at h2
                      cases h2
                    clear hv
                    go_wp2_with fail
                    refine CV2.out.mono ?_
                    rintro e w9 ⟨rfl, h9⟩
                    have HE9 := Lib.hid h9
                    clear h9 z8 z9
                    have hz6 := HE9.out.heap HZr.out (fun h => h)
                    have z0 := cellRow hz6 0 _ rfl
                    have z1 := cellRow hz6 1 _ rfl
                    have m0 := frozenRow hz6 0
                    have m1 := frozenRow hz6 1
                    have hfin := setBlock (setBlock hz6 0 (.int .i64 0)) 1 (.slice none 0 0)
                    have y0 := cellRow hfin 0 _ rfl
                    have y1 := cellRow hfin 1 _ rfl
                    clear hz6 hfin
                    simp at y0 y1
                    go_wp2_with fail
                    refine bodyPost_ret (v := .tuple #[.agg #[.int .i64 0, .slice none 0 0], .bool false]) (by simp [results, Tryz.results26, go_sem, z0, z1, y0, y1]) rfl (Or.inr ⟨NG.out, rfl, ?_⟩)
                    exact ((HWr.out.ext HE9.out).setNew (Nat.le_refl _) _).setNew (Nat.le_refl _) _
                  | true =>
                    rw [hv] at CV2
                    go_wp2_with fail
                    refine CV2.out.mono ?_
                    rintro e w9 ⟨rfl, h9⟩
                    have HE9 := Lib.hid h9
                    clear h9 z8 z9
                    have hb9 := HE9.out.heap HO.out (fun h => h)
                    have z8 := cellRow hb9 0 _ rfl
                    have z9 := cellRow hb9 1 _ rfl
                    have CT2 := Lib.hid (CT.out _ w9 _ (HNV.out.kept HE9.out (fun _ _ h => h)) hv)
                    obtain ⟨T, hT⟩ : ∃ T, bs (opT kind ⟨c7, acc⟩) = T := ⟨_, rfl⟩
                    rw [hT] at CT2
                    by_cases hTt : T = t
                    · have HGG : Hid (Good kind t ⟨c7, acc⟩) := ⟨hv, by rw [hT, hTt]⟩
                      have b1 : (T.toList == t.toList) = true := (Lib.bytes_beq_iff _ _).2 hTt
                      have b2 : (T.toList != t.toList) = false := by rw [bne, b1]; rfl
                      clear hb9 hv hT hTt
                      go_wp2_with fail
                      refine CT2.out.mono ?_
                      rintro e w10 ⟨rfl, h10⟩
                      have HE10 := Lib.hid (HE9.out.ext h10)
                      clear h10 z8 z9
                      have hb10 := HE10.out.heap HO.out (fun h => h)
                      have z8 := cellRow hb10 0 _ rfl
                      have z9 := cellRow hb10 1 _ rfl
                      have hz6 := HE10.out.heap HZr.out (fun h => h)
                      have z0 := cellRow hz6 0 _ rfl
                      have z1 := cellRow hz6 1 _ rfl
                      have m0 := frozenRow hz6 0
                      have m1 := frozenRow hz6 1
                      have hfin := setBlock (setBlock hz6 0 (.int .i64 c7)) 1 (.slice aa acc.length ac)
                      have y0 := cellRow hfin 0 _ rfl
                      have y1 := cellRow hfin 1 _ rfl
                      clear hz6 hfin hb10
                      simp at y0 y1
                      go_wp2_with fail
                      refine bodyPost_ret (v := .tuple #[.agg #[.int .i64 c7, .slice aa acc.length ac], .bool true]) (by simp [results, Tryz.results26, go_sem, z0, z1, y0, y1]) rfl (Or.inl ⟨⟨c7, acc⟩, _, HGG.out, rfl, ?_, ?_⟩)
                      · have hk1 := (HNV.out.kept HE10.out (fun _ _ h => h)).kept (updAt (w := w10) (g := w.heap.size) (j := 0) (.int .i64 c7)) (fun k hk he => by omega)
                        have hk2 := SlR.kept hk1 (updAt (g := w.heap.size) (j := 1) (.slice aa acc.length ac)) (fun k hk he => by omega)
                        exact SlR.weaken hk2 (fun k hk => by omega)
                      · exact ((HWr.out.ext HE10.out).setNew (Nat.le_refl _) _).setNew (Nat.le_refl _) _
                    · have NG : Hid (∀ o, ¬ Good kind t o) := fun o ho => by
                        have h1 := HGO.out o ho
                        have h2 := ho.2
                        rw [← h1, hT] at h2
                        exact hTt h2
                      have b1 : (T.toList == t.toList) = false := (Lib.bytes_beq_false_iff _ _).2 hTt
                      have b2 : (T.toList != t.toList) = true := by rw [bne, b1]; rfl
                      clear hb9 hv hT hTt
                      go_wp2_with fail
                      refine CT2.out.mono ?_
                      rintro e w10 ⟨rfl, h10⟩
                      have HE10 := Lib.hid (HE9.out.ext h10)
                      clear h10 z8 z9
                      have hz6 := HE10.out.heap HZr.out (fun h => h)
                      have z0 := cellRow hz6 0 _ rfl
                      have z1 := cellRow hz6 1 _ rfl
                      have m0 := frozenRow hz6 0
                      have m1 := frozenRow hz6 1
                      have hfin := setBlock (setBlock hz6 0 (.int .i64 0)) 1 (.slice none 0 0)
                      have y0 := cellRow hfin 0 _ rfl
                      have y1 := cellRow hfin 1 _ rfl
                      clear hz6 hfin
                      simp at y0 y1
                      go_wp2_with fail
                      refine bodyPost_ret (v := .tuple #[.agg #[.int .i64 0, .slice none 0 0], .bool false]) (by simp [results, Tryz.results26, go_sem, z0, z1, y0, y1]) rfl (Or.inr ⟨NG.out, rfl, ?_⟩)
                      exact ((HWr.out.ext HE10.out).setNew (Nat.le_refl _) _).setNew (Nat.le_refl _) _
                · have s1 : decide ((a : Int) < (t.size : Int)) = false := decide_eq_false (by omega)
                  have s1' : decide (a < t.size) = false := decide_eq_false hat
                  cases hv : validOp kind ⟨c7, acc⟩ with
                  | false =>
                    rw [hv] at CV2
                    have NG : Hid (∀ o, ¬ Good kind t o) := fun o ho => by
                      have h1 := HGO.out o ho
                      have h2 := ho.1
                      rw [← h1, hv] at h2
                      cases h2
                    clear hv
                    go_wp2_with fail
                    refine CV2.out.mono ?_
                    rintro e w9 ⟨rfl, h9⟩
                    have HE9 := Lib.hid h9
                    clear h9 z8 z9
                    have hz6 := HE9.out.heap HZr.out (fun h => h)
                    have z0 := cellRow hz6 0 _ rfl
                    have z1 := cellRow hz6 1 _ rfl
                    have m0 := frozenRow hz6 0
                    have m1 := frozenRow hz6 1
                    have hfin := setBlock (setBlock hz6 0 (.int .i64 0)) 1 (.slice none 0 0)
                    have y0 := cellRow hfin 0 _ rfl
                    have y1 := cellRow hfin 1 _ rfl
                    clear hz6 hfin
                    simp at y0 y1
                    go_wp2_with fail
                    refine bodyPost_ret (v := .tuple #[.agg #[.int .i64 0, .slice none 0 0], .bool false]) (by simp [results, Tryz.results26, go_sem, z0, z1, y0, y1]) rfl (Or.inr ⟨NG.out, rfl, ?_⟩)
                    exact ((HWr.out.ext HE9.out).setNew (Nat.le_refl _) _).setNew (Nat.le_refl _) _
                  | true =>
                    rw [hv] at CV2
                    go_wp2_with fail
                    refine CV2.out.mono ?_
                    rintro e w9 ⟨rfl, h9⟩
                    have HE9 := Lib.hid h9
                    clear h9 z8 z9
                    have hb9 := HE9.out.heap HO.out (fun h => h)
                    have z8 := cellRow hb9 0 _ rfl
                    have z9 := cellRow hb9 1 _ rfl
                    have CT2 := Lib.hid (CT.out _ w9 _ (HNV.out.kept HE9.out (fun _ _ h => h)) hv)
                    obtain ⟨T, hT⟩ : ∃ T, bs (opT kind ⟨c7, acc⟩) = T := ⟨_, rfl⟩
                    rw [hT] at CT2
                    by_cases hTt : T = t
                    · have HGG : Hid (Good kind t ⟨c7, acc⟩) := ⟨hv, by rw [hT, hTt]⟩
                      have b1 : (T.toList == t.toList) = true := (Lib.bytes_beq_iff _ _).2 hTt
                      have b2 : (T.toList != t.toList) = false := by rw [bne, b1]; rfl
                      clear hb9 hv hT hTt
                      go_wp2_with fail
                      refine CT2.out.mono ?_
                      rintro e w10 ⟨rfl, h10⟩
                      have HE10 := Lib.hid (HE9.out.ext h10)
                      clear h10 z8 z9
                      have hb10 := HE10.out.heap HO.out (fun h => h)
                      have z8 := cellRow hb10 0 _ rfl
                      have z9 := cellRow hb10 1 _ rfl
                      have hz6 := HE10.out.heap HZr.out (fun h => h)
                      have z0 := cellRow hz6 0 _ rfl
                      have z1 := cellRow hz6 1 _ rfl
                      have m0 := frozenRow hz6 0
                      have m1 := frozenRow hz6 1
                      have hfin := setBlock (setBlock hz6 0 (.int .i64 c7)) 1 (.slice aa acc.length ac)
                      have y0 := cellRow hfin 0 _ rfl
                      have y1 := cellRow hfin 1 _ rfl
                      clear hz6 hfin hb10
                      simp at y0 y1
                      go_wp2_with fail
                      refine bodyPost_ret (v := .tuple #[.agg #[.int .i64 c7, .slice aa acc.length ac], .bool true]) (by simp [results, Tryz.results26, go_sem, z0, z1, y0, y1]) rfl (Or.inl ⟨⟨c7, acc⟩, _, HGG.out, rfl, ?_, ?_⟩)
                      · have hk1 := (HNV.out.kept HE10.out (fun _ _ h => h)).kept (updAt (w := w10) (g := w.heap.size) (j := 0) (.int .i64 c7)) (fun k hk he => by omega)
                        have hk2 := SlR.kept hk1 (updAt (g := w.heap.size) (j := 1) (.slice aa acc.length ac)) (fun k hk he => by omega)
                        exact SlR.weaken hk2 (fun k hk => by omega)
                      · exact ((HWr.out.ext HE10.out).setNew (Nat.le_refl _) _).setNew (Nat.le_refl _) _
                    · have NG : Hid (∀ o, ¬ Good kind t o) := fun o ho => by
                        have h1 := HGO.out o ho
                        have h2 := ho.2
                        rw [← h1, hT] at h2
                        exact hTt h2
                      have b1 : (T.toList == t.toList) = false := (Lib.bytes_beq_false_iff _ _).2 hTt
                      have b2 : (T.toList != t.toList) = true := by rw [bne, b1]; rfl
                      clear hb9 hv hT hTt
                      go_wp2_with fail
                      refine CT2.out.mono ?_
                      rintro e w10 ⟨rfl, h10⟩
                      have HE10 := Lib.hid (HE9.out.ext h10)
                      clear h10 z8 z9
                      have hz6 := HE10.out.heap HZr.out (fun h => h)
                      have z0 := cellRow hz6 0 _ rfl
                      have z1 := cellRow hz6 1 _ rfl
                      have m0 := frozenRow hz6 0
                      have m1 := frozenRow hz6 1
                      have hfin := setBlock (setBlock hz6 0 (.int .i64 0)) 1 (.slice none 0 0)
                      have y0 := cellRow hfin 0 _ rfl
                      have y1 := cellRow hfin 1 _ rfl
                      clear hz6 hfin
                      simp at y0 y1
                      go_wp2_with fail
                      refine bodyPost_ret (v := .tuple #[.agg #[.int .i64 0, .slice none 0 0], .bool false]) (by simp [results, Tryz.results26, go_sem, z0, z1, y0, y1]) rfl (Or.inr ⟨NG.out, rfl, ?_⟩)
                      exact ((HWr.out.ext HE10.out).setNew (Nat.le_refl _) _).setNew (Nat.le_refl _) _

end Go.Proofs.YthpekfpeoglbgaaGreatDoor
