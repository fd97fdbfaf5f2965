/- The texts Y7 Y8, one behind the other. -/
import Derived.Test.YtjjaknmnhhfjeaaGreatDoorKAP
import Derived.Test.YtjjaknmnhhfjeaaGreatDoorKAD
import Derived.Test.YtjjaknmnhhfjeaaGreatDoorKAF
/- fit and TextSignature of the program. -/
namespace Go.Proofs.YtjjaknmnhhfjeaaGreatDoor
open Go.RowKit Go.Hw Go
set_option linter.unusedVariables false
set_option linter.unusedSimpArgs false

open Tm
def sepL : List UInt8 := [44, 32]
def joinB (l : List By) : List UInt8 := Lib.join (l.map (·.data.toList)) sepL
def sortT (s : By) : List UInt8 := [115, 111, 114, 116, 32] ++ (s.data.toList ++ [10])
def declT (d : Dc) : List UInt8 := [111, 112, 32] ++ (d.1.data.toList ++ ([40] ++ (joinB d.2.1 ++ ([41, 32, 45, 62, 32] ++ (d.2.2.data.toList ++ [10])))))
def tsgL (g : Sg) : List UInt8 := g.1.flatMap sortT ++ g.2.flatMap declT
def fitF (l : List UInt8) : By × Int := if 65536 < l.length then (nul, 4) else (bs l, 0)
def tsgF (g : Sg) : By × Int := if vsgB nmB g = false then (nul, 1) else fitF (tsgL g)
theorem joinTail_len (r : List By) : (Lib.joinTail sepL (r.map (·.data.toList))).length = (r.map fun s => s.size + 2).sum := by
  induction r with
  | nil => rfl
  | cons a r ih =>
    unfold Lib.joinTail at *
    simp only [List.map_cons, List.flatten_cons, List.length_append, List.sum_cons, ih]
    have : a.data.toList.length = a.size := rfl
    have h2 : sepL.length = 2 := rfl
    omega
theorem joinB_len (l : List By) (h : ∀ s ∈ l, s.size ≤ 40) : (joinB l).length ≤ 42 * l.length := by
  have key : ∀ r : List By, (∀ s ∈ r, s.size ≤ 40) → (r.map fun s => s.size + 2).sum ≤ 42 * r.length := by
    intro r
    induction r with
    | nil => intro _; simp
    | cons a r ih =>
      intro h
      have h1 := ih (fun s hs => h s (List.mem_cons_of_mem _ hs))
      have h2 := h a (List.mem_cons_self ..)
      simp only [List.map_cons, List.sum_cons, List.length_cons]
      omega
  cases l with
  | nil => simp [joinB, Lib.join_nil]
  | cons a r =>
    unfold joinB
    rw [List.map_cons, Lib.join_cons, List.length_append, joinTail_len]
    have h1 := key r (fun s hs => h s (List.mem_cons_of_mem _ hs))
    have h2 : a.data.toList.length ≤ 40 := h a (List.mem_cons_self ..)
    simp only [List.length_cons]
    omega
theorem nm_size {s : By} (h : nmB s = true) : s.size ≤ 40 := by
  unfold nmB at h
  rw [Bool.and_eq_true] at h
  exact (of_decide_eq_true h.1).2
theorem vsg_sizes {g : Sg} (h : vsgB nmB g = true) : (∀ s ∈ g.1, s.size ≤ 40) ∧ g.1.length ≤ 40 ∧ g.2.length ≤ 100 ∧ ∀ d ∈ g.2, d.1.size ≤ 40 ∧ d.2.1.length ≤ 6 ∧ d.2.2.size ≤ 40 ∧ ∀ s ∈ d.2.1, s.size ≤ 40 := by
  unfold vsgB at h
  rw [Bool.and_eq_true, Bool.and_eq_true, Bool.and_eq_true, decide_eq_true_eq, decide_eq_true_eq] at h
  obtain ⟨k1, k2, h1, h2⟩ := h
  have h3 := ((precP_iff nmB g.1).1 h1).2.1
  refine ⟨fun s hs => nm_size (h3 s hs), k1, k2, fun d hd => ?_⟩
  obtain ⟨j, hj, rfl⟩ := List.mem_iff_getElem.1 hd
  have h4 := List.all_eq_true.1 h2 j (List.mem_range.2 hj)
  unfold okD at h4
  rw [Bool.and_eq_true, Bool.and_eq_true, Bool.and_eq_true, Bool.and_eq_true, dg_at hj] at h4
  obtain ⟨a1, a2, a3, a4, a5⟩ := h4
  exact ⟨nm_size a1, of_decide_eq_true a3, nm_size (h3 _ (of_decide_eq_true a4)), fun s hs => nm_size (h3 _ (of_decide_eq_true (List.all_eq_true.1 a5 s hs)))⟩
theorem declT_len (d : Dc) (h : d.1.size ≤ 40 ∧ d.2.1.length ≤ 6 ∧ d.2.2.size ≤ 40 ∧ ∀ s ∈ d.2.1, s.size ≤ 40) : (declT d).length ≤ 400 := by
  have h1 := joinB_len d.2.1 h.2.2.2
  have h2 : d.1.data.toList.length ≤ 40 := h.1
  have h3 : d.2.2.data.toList.length ≤ 40 := h.2.2.1
  unfold declT
  simp only [List.length_append, List.length_cons, List.length_nil]
  omega
theorem flat_len {α : Type} (f : α → List UInt8) (n : Nat) : ∀ l : List α, (∀ x ∈ l, (f x).length ≤ n) → (l.flatMap f).length ≤ n * l.length
  | [], _ => by simp
  | a :: l, h => by
    have h1 := flat_len f n l (fun x hx => h x (List.mem_cons_of_mem _ hx))
    have h2 := h a (List.mem_cons_self ..)
    rw [List.flatMap_cons, List.length_append, List.length_cons, Nat.mul_succ]
    omega
theorem flatB_snoc {α : Type} (f : α → List UInt8) (l : List α) (k : Nat) (d : α) (h : k < l.length) : (l.take (k + 1)).flatMap f = (l.take k).flatMap f ++ f (l.getD k d) := by
  rw [List.take_add_one, List.flatMap_append, List.getD_eq_getElem?_getD, List.getElem?_eq_getElem h]
  simp
set_option maxRecDepth 100000 in
set_option maxHeartbeats 2000000 in
theorem fit_x (l : List UInt8) (w : World) : Calls Tryz.prog 71 #[.string (bs l)] w fun e w' => e = .returned (.tuple #[.string (fitF l).1, .int .i64 (fitF l).2]) ∧ Ext w w' := by
  have hs := bs_size l
  have HV : Hid (fitF l = if 65536 < l.length then (nul, 4) else (bs l, 0)) := Lib.hid rfl
  obtain ⟨V, hV⟩ : ∃ V, fitF l = V := ⟨_, rfl⟩
  rw [hV] at HV ⊢
  clear hV
  obtain ⟨x, hx⟩ : ∃ x, bs l = x := ⟨_, rfl⟩
  rw [hx] at HV hs ⊢
  clear hx
  have HE : Hid (Ext w w) := Lib.hid (Upd.refl _ _)
  by_cases h : 65536 < l.length
  · have HV : Hid (V = (nul, 4)) := Lib.hid (by rw [HV.out, if_pos h])
    have z1 : (65536 : Int) < (x.size : Int) := by omega
    have z1' : decide ((65536 : Int) < (x.size : Int)) = true := decide_eq_true z1
    clear h hs
    go_enter Tryz.func71, Tryz.ntmps71
    go_wp2_with fail
    go_ret2
    rw [HV.out]
    exact ⟨rfl, HE.out⟩
  · have HV : Hid (V = (x, 0)) := Lib.hid (by rw [HV.out, if_neg h])
    have z1 : ¬ (65536 : Int) < (x.size : Int) := by omega
    have z1' : decide ((65536 : Int) < (x.size : Int)) = false := decide_eq_false z1
    clear h hs
    go_enter Tryz.func71, Tryz.ntmps71
    go_wp2_with fail
    go_ret2
    rw [HV.out]
    exact ⟨rfl, HE.out⟩
theorem join_x (l : List By) (v : Value) (S : Nat → Prop) (w : World) (hR : StrR S w v l) (hS : ∀ k, S k → k < w.heap.size) (hl : l.length ≤ 1000000) (hs : (joinB l).length ≤ 140737488355328) :
    Calls Tryz.prog 70 #[v, .string (bs sepL)] w fun e w' => e = .returned (.string (bs (joinB l))) ∧ Ext w w' := by
  obtain ⟨a, cap, rfl⟩ := SlR.shape hR
  by_cases h0 : 0 < l.length
  · obtain ⟨g, off, hga, hSg, hat⟩ := SlR.one_at (d := nul) hR h0
    subst hga
    refine (Tryz.strings_Join g off cap l (bs sepL) w (fun j x hx => ?_) (hS _ hSg) (by omega) (SlR.le_cap hR rfl) hs).mono ?_
    · have hj := (List.getElem?_eq_some_iff.1 hx).1
      rw [hat j hj, List.getD_eq_getElem?_getD, hx]; rfl
    · rintro e w' ⟨rfl, hb⟩
      exact ⟨rfl, below_tr (Upd.refl _ _) hb⟩
  · have hl0 : l = [] := List.eq_nil_of_length_eq_zero (by omega)
    subst hl0
    refine (Tryz.strings_Join_none a cap (bs sepL) w).mono ?_
    rintro e w' ⟨rfl, rfl⟩
    exact ⟨rfl, Upd.refl _ _⟩
set_option maxRecDepth 100000 in
set_option maxHeartbeats 2000000 in
theorem tsig_x (g : Sg) (v : Value) (S : Nat → Prop) (w : World) (hG : SgR S w g v) (hS : ∀ k, S k → k < w.heap.size) (htab : AscT w) (hl1 : g.1.length ≤ 1000000) (hl2 : g.2.length ≤ 1000000) (hl3 : ∀ d ∈ g.2, d.2.1.length ≤ 1000000) :
    Calls Tryz.prog 22 #[v] w fun e w' => e = .returned (.tuple #[.string (tsgF g).1, .int .i64 (tsgF g).2]) ∧ Ext w w' := by
  have HVS := Lib.hid (fun W (hW : Ext w W) => pvsig_x g v S W (hG.ext hW) (asc_ext htab hW) hl1 hl2 hl3)
  obtain ⟨sa, sc, oa, oc, rfl, hS1, hD⟩ := hG
  have HS1 := Lib.hid hS1
  have HD := Lib.hid hD
  have HSS := Lib.hid hS
  have HZ := Lib.hid ((Upd.refl (fun _ => False) w).alloc (.cells #[.slice sa g.1.length sc, .slice oa g.2.length oc] 42))
  have HB := Lib.hid (alloc0 w (.cells #[.slice sa g.1.length sc, .slice oa g.2.length oc] 42))
  have c0 := cellRow HB.out 0 (.slice sa g.1.length sc) rfl
  have c1 := cellRow HB.out 1 (.slice oa g.2.length oc) rfl
  have HVV : Hid (tsgF g = if vsgB nmB g = false then (nul, 1) else fitF (tsgL g)) := Lib.hid rfl
  obtain ⟨V, hV⟩ : ∃ V, tsgF g = V := ⟨_, rfl⟩
  rw [hV] at HVV ⊢
  have HCV := Lib.hid (HVS.out _ HZ.out)
  clear hS1 hD hV htab hl3 hS
  obtain ⟨b0, hb0⟩ : ∃ b0, w.heap.size = b0 := ⟨_, rfl⟩
  try rw [hb0] at HB
  cases hvs : vsgB nmB g
  · have HV : Hid (V = (nul, 1)) := Lib.hid (by rw [HVV.out, if_pos hvs])
    rw [hvs] at HCV
    clear hvs
    go_enter Tryz.func22, Tryz.ntmps22
    go_wp2_with fail
    refine HCV.out.mono ?_
    rintro e w4 ⟨rfl, hw4⟩
    have H4 := Lib.hid (HZ.out.trans hw4)
    clear hw4 c0 c1
    go_wp2_with fail
    go_ret2
    rw [HV.out]
    exact ⟨rfl, H4.out⟩
  have HV2 : Hid (V = fitF (tsgL g)) := Lib.hid (by rw [HVV.out, if_neg (by rw [hvs]; decide)])
  obtain ⟨hz1, hz2, hz3, hz4⟩ := vsg_sizes hvs
  have HZ1 := Lib.hid hz1
  have HZ4 := Lib.hid hz4
  have HT1 : Hid (∀ k, ((g.1.take k).flatMap sortT).length ≤ 4000) := Lib.hid (fun k => by
    have h1 := flat_len sortT 46 (g.1.take k) (fun x hx => by
      have h2 := hz1 x (List.mem_of_mem_take hx)
      have h3 : x.data.toList.length = x.size := rfl
      unfold sortT
      simp only [List.length_append, List.length_cons, List.length_nil]
      omega)
    have h4 : (g.1.take k).length ≤ 40 := by rw [List.length_take]; omega
    omega)
  have HT2 : Hid (∀ k, ((g.2.take k).flatMap declT).length ≤ 40000) := Lib.hid (fun k => by
    have h1 := flat_len declT 400 (g.2.take k) (fun x hx => declT_len x (hz4 x (List.mem_of_mem_take hx)))
    have h4 : (g.2.take k).length ≤ 100 := by rw [List.length_take]; omega
    omega)
  rw [hvs] at HCV
  clear hvs HVV HVS hz1 hz4
  go_enter Tryz.func22, Tryz.ntmps22
  go_wp2_with fail
  refine HCV.out.mono ?_
  rintro e w4 ⟨rfl, hw4⟩
  have H4 := Lib.hid (HZ.out.trans hw4)
  have HBG4 := Lib.hid (hw4.heap HB.out (fun h => h))
  have HB5 : Hid (BdR w4.heap.size w4.heap.size [] (w4.alloc (.cells #[.pointer none, .slice none 0 0] 120))) := BdR.new _ _ (Nat.le_refl _)
  have HE5 : Hid (Ext w4 (w4.alloc (.cells #[.pointer none, .slice none 0 0] 120))) := (Upd.refl _ w4).alloc _
  have HBG5 := Lib.hid (HE5.out.heap HBG4.out (fun h => h))
  clear hw4 c0 c1 HCV
  have c0 := cellRow HBG5.out 0 (.slice sa g.1.length sc) rfl
  go_wp2_with fail
  try rw [hb0]
  generalize (w4.alloc (.cells #[.pointer none, .slice none 0 0] 120)) = w5 at *
  clear c0
  obtain ⟨nb, hnb⟩ : ∃ nb, w4.heap.size = nb := ⟨_, rfl⟩
  rw [hnb] at HB5
  try rw [hnb]
  have HNB := Lib.hid hnb
  clear hnb
  go_loopg [15] g.1.length (fun gk iv wr => ∃ k : Nat, iv = .int .i64 (k : Int) ∧ gk = g.1.length - k ∧ k ≤ g.1.length ∧ Hid (BdR nb nb ((g.1.take k).flatMap sortT) wr) ∧ Hid (Ext w4 wr))
  case atStart => exact ⟨0, rfl, rfl, Nat.zero_le _, Lib.hid (by simpa using HB5.out), HE5⟩
  case round =>
    clear HB5 HE5
    obtain ⟨k, rfl, rfl, hk, HBd, HE⟩ := hrel
    have hsz8 := HE.out.size
    have hl8 := HT1.out k
    by_cases hlt : k < g.1.length
    · obtain ⟨gg, off, hga, _, hat⟩ := StR.at_ (StR.ext HS1.out (H4.out.trans HE.out)) (by omega)
      subst hga
      have q0 := hat k hlt
      have z0 : (0 : Int) ≤ (k : Int) := by omega
      have z1 : (k : Int) < (g.1.length : Int) := by omega
      have z2 : decide ((k : Int) < (g.1.length : Int)) = true := decide_eq_true z1
      have z2' : decide (k < g.1.length) = true := decide_eq_true hlt
      have hxs := HZ1.out (bg g.1 k) (by rw [bg_at _ _ hlt]; exact List.getElem_mem hlt)
      have HFS := Lib.hid (flatB_snoc sortT g.1 k nul hlt)
      obtain ⟨x, hx⟩ : ∃ x, bg g.1 k = x := ⟨_, rfl⟩
      rw [show g.1.getD k nul = x from hx] at HFS
      rw [hx] at q0 hxs
      clear hat hx
      obtain ⟨R1, hR1⟩ : ∃ R, (⟨#[115, 111, 114, 116, 32]⟩ : ByteArray) ++ x = R := ⟨_, rfl⟩
      obtain ⟨R2, hR2⟩ : ∃ R, R1 ++ (⟨#[10]⟩ : ByteArray) = R := ⟨_, rfl⟩
      have HR : Hid (R2 = bs (sortT x)) := Lib.hid (by
        rw [← hR2, ← hR1]
        have e1 : (⟨#[115, 111, 114, 116, 32]⟩ : ByteArray) = bs [115, 111, 114, 116, 32] := rfl
        have e2 : (⟨#[10]⟩ : ByteArray) = bs [10] := rfl
        rw [e1, e2]
        have f1 : x = bs x.data.toList := (bs_of x).symm
        have g1 : sortT x = [115, 111, 114, 116, 32] ++ (x.data.toList ++ [10]) := rfl
        rw [g1]
        generalize x.data.toList = D at *
        rw [f1]
        simp only [bs_app, List.append_assoc])
      have hR1s : R1.size = 5 + x.size := by rw [← hR1, ByteArray.size_append]; rfl
      have s1 : ¬ (9223372036854775807 < 5 + x.size) := by omega
      have s2 : ¬ (9223372036854775807 < R1.size + 1) := by omega
      have hxl : (sortT x).length ≤ 46 := by
        have h3 : x.data.toList.length = x.size := rfl
        unfold sortT
        simp only [List.length_append, List.length_cons, List.length_nil]
        omega
      have q1 := hR1
      have q2 := hR2
      clear hR1 hR2
      go_wp2_with fail
      clear q1 q2 q0
      rw [HR.out]
      refine (write_x nb nb ((g.1.take k).flatMap sortT) (sortT x) _ HBd.out (by omega) (by have := HNB.out; omega)).mono ?_
      rintro e w7 ⟨rfl, h71, h72⟩
      have HE7 : Hid (Ext w4 w7) := Lib.hid (below_tr HE.out (by have := HNB.out; rw [this]; exact h72))
      have HB7 : Hid (BdR nb nb ((g.1.take (k + 1)).flatMap sortT) w7) := Lib.hid (by rw [HFS.out]; exact h71)
      clear h71 h72
      go_wp2_with fail
      go_roundg (g.1.length - (k + 1))
      case measure => omega
      case rel => exact ⟨k + 1, by go_num, rfl, by omega, HB7, HE7⟩
    · obtain rfl : k = g.1.length := by omega
      have z2 : decide ((g.1.length : Int) < (g.1.length : Int)) = false := decide_eq_false (by omega)
      have HBG8 := Lib.hid (HE.out.heap HBG4.out (fun h => h))
      have c1 := cellRow HBG8.out 1 (.slice oa g.2.length oc) rfl
      have HTK : Hid ((g.1.take g.1.length).flatMap sortT = g.1.flatMap sortT) := Lib.hid (by rw [List.take_length])
      rw [HTK.out] at HBd hl8
      obtain ⟨P1, hP1⟩ : ∃ P, g.1.flatMap sortT = P := ⟨_, rfl⟩
      have HTL : Hid (tsgL g = P1 ++ g.2.flatMap declT) := Lib.hid (by rw [← hP1]; rfl)
      rw [hP1] at HBd hl8
      clear hP1 HTK HBG5 HBG8 hsz8
      go_wp2_with fail
      clear c1 z2
      go_loopg [27] g.2.length (fun gk iv wr => ∃ k : Nat, iv = .int .i64 (k : Int) ∧ gk = g.2.length - k ∧ k ≤ g.2.length ∧ Hid (BdR nb nb (P1 ++ (g.2.take k).flatMap declT) wr) ∧ Hid (Ext w4 wr))
      case atStart => exact ⟨0, rfl, rfl, Nat.zero_le _, Lib.hid (by simpa using HBd.out), HE⟩
      case round =>
        clear HBd HE
        obtain ⟨k, rfl, rfl, hk, HBd, HE⟩ := hrel
        have hsz8 := HE.out.size
        have hl9 := HT2.out k
        by_cases hlt : k < g.2.length
        · obtain ⟨gg, off, hga, _, hat⟩ := (HD.out.ext (H4.out.trans HE.out)).at_ (by omega)
          subst hga
          obtain ⟨xa, xc, q0, q1, q2, hAr⟩ := hat k hlt
          have z0 : (0 : Int) ≤ (k : Int) := by omega
          have z1 : (k : Int) < (g.2.length : Int) := by omega
          have z2 : decide ((k : Int) < (g.2.length : Int)) = true := decide_eq_true z1
          have z2' : decide (k < g.2.length) = true := decide_eq_true hlt
          have hxs := HZ4.out (dg g.2 k) (by rw [dg_at hlt]; exact List.getElem_mem hlt)
          have hxl := declT_len _ hxs
          have hjl := joinB_len _ hxs.2.2.2
          have HFS := Lib.hid (flatB_snoc declT g.2 k (nul, [], nul) hlt)
          obtain ⟨⟨d1, d2, d3⟩, hdd⟩ : ∃ d, dg g.2 k = d := ⟨_, rfl⟩
          rw [show g.2.getD k (nul, [], nul) = (d1, d2, d3) from hdd] at HFS
          rw [hdd] at q0 q1 q2 hAr hxs hxl hjl
          dsimp only at q0 q1 q2 hAr hxs hxl hjl
          obtain ⟨k1, k2, k3, _⟩ := hxs
          have hQ := (Upd.refl (fun _ => False) wr).alloc (.cells #[.string d1, .slice xa d2.length xc, .string d3] 96)
          have HQ := Lib.hid hQ
          have HBD := Lib.hid (alloc0 wr (.cells #[.string d1, .slice xa d2.length xc, .string d3] 96))
          have HAr := Lib.hid (SlR.kept hAr hQ (fun _ _ h => h))
          have HBdQ := Lib.hid (HBd.out.ext hQ)
          have HEQ := Lib.hid (HE.out.trans hQ)
          clear hat hdd hAr hQ
          go_wp2_with fail
          clear q0 q1 q2
          obtain ⟨nd, hnd⟩ : ∃ nd, wr.heap.size = nd := ⟨_, rfl⟩
          try rw [hnd] at HBD
          try rw [hnd]
          have hsq := HQ.out.size
          generalize wr.alloc (.cells #[.string d1, .slice xa d2.length xc, .string d3] 96) = w6 at *
          clear hnd
          have HJ := Lib.hid (fun W (hW : Ext w6 W) => join_x d2 _ S W (SlR.kept HAr.out hW (fun _ _ h => h)) (fun j hj => Nat.lt_of_lt_of_le (HSS.out j hj) (Nat.le_trans (H4.out.trans HEQ.out).size hW.size)) (by omega) (by omega))
          obtain ⟨R1, hR1⟩ : ∃ R, (⟨#[111, 112, 32]⟩ : ByteArray) ++ d1 = R := ⟨_, rfl⟩
          obtain ⟨R2, hR2⟩ : ∃ R, R1 ++ (⟨#[40]⟩ : ByteArray) = R := ⟨_, rfl⟩
          obtain ⟨J, hJ⟩ : ∃ R, bs (joinB d2) = R := ⟨_, rfl⟩
          rw [hJ] at HJ
          obtain ⟨R3, hR3⟩ : ∃ R, R2 ++ J = R := ⟨_, rfl⟩
          obtain ⟨R4, hR4⟩ : ∃ R, R3 ++ (⟨#[41, 32, 45, 62, 32]⟩ : ByteArray) = R := ⟨_, rfl⟩
          obtain ⟨R5, hR5⟩ : ∃ R, R4 ++ d3 = R := ⟨_, rfl⟩
          obtain ⟨R6, hR6⟩ : ∃ R, R5 ++ (⟨#[10]⟩ : ByteArray) = R := ⟨_, rfl⟩
          have HR : Hid (R6 = bs (declT (d1, d2, d3))) := Lib.hid (by
            rw [← hR6, ← hR5, ← hR4, ← hR3, ← hR2, ← hR1, ← hJ]
            have e1 : (⟨#[111, 112, 32]⟩ : ByteArray) = bs [111, 112, 32] := rfl
            have e2 : (⟨#[10]⟩ : ByteArray) = bs [10] := rfl
            have e3 : (⟨#[40]⟩ : ByteArray) = bs [40] := rfl
            have e4 : (⟨#[41, 32, 45, 62, 32]⟩ : ByteArray) = bs [41, 32, 45, 62, 32] := rfl
            rw [e1, e2, e3, e4]
            have f1 : d1 = bs d1.data.toList := (bs_of d1).symm
            have f3 : d3 = bs d3.data.toList := (bs_of d3).symm
            have g1 : declT (d1, d2, d3) = [111, 112, 32] ++ (d1.data.toList ++ ([40] ++ (joinB d2 ++ ([41, 32, 45, 62, 32] ++ (d3.data.toList ++ [10]))))) := rfl
            rw [g1]
            generalize d1.data.toList = D1 at *
            generalize d3.data.toList = D3 at *
            subst f1 f3
            simp only [bs_app, List.append_assoc])
          have hJs : J.size ≤ 42 * d2.length := by rw [← hJ, bs_size]; exact hjl
          have r1 : R1.size = 3 + d1.size := by rw [← hR1, ByteArray.size_append]; rfl
          have r2 : R2.size = R1.size + 1 := by rw [← hR2, ByteArray.size_append]; rfl
          have r3 : R3.size = R2.size + J.size := by rw [← hR3, ByteArray.size_append]
          have r4 : R4.size = R3.size + 5 := by rw [← hR4, ByteArray.size_append]; rfl
          have r5 : R5.size = R4.size + d3.size := by rw [← hR5, ByteArray.size_append]
          have s1 : ¬ (9223372036854775807 < 3 + d1.size) := by omega
          have s2 : ¬ (9223372036854775807 < R1.size + 1) := by omega
          have s3 : ¬ (9223372036854775807 < R2.size + J.size) := by omega
          have s4 : ¬ (9223372036854775807 < R3.size + 5) := by omega
          have s5 : ¬ (9223372036854775807 < R4.size + d3.size) := by omega
          have s6 : ¬ (9223372036854775807 < R5.size + 1) := by omega
          have HDX : Hid (∀ x : XW w6, x.val.cell? ⟨nd, 0, none⟩ = some (.string d1) ∧ x.val.cell? ⟨nd, 1, none⟩ = some (.slice xa d2.length xc) ∧ x.val.cell? ⟨nd, 2, none⟩ = some (.string d3)) := Lib.hid (fun x => ⟨cellRow (x.ext.heap HBD.out (fun h => h)) 0 _ rfl, cellRow (x.ext.heap HBD.out (fun h => h)) 1 _ rfl, cellRow (x.ext.heap HBD.out (fun h => h)) 2 _ rfl⟩)
          have hX0 := fun x : XW w6 => (HDX.out x).1
          have hX1 := fun x : XW w6 => (HDX.out x).2.1
          have hX2 := fun x : XW w6 => (HDX.out x).2.2
          clear hJ
          clear r1 r2 r3 r4 r5 hJs k1 k2 k3
          refine wp_region_par (α := Nat) 13 [(13, 2)] [[], [0], [0, 1], [0, 1, 2], [], [4], [4, 5], [0, 1, 2, 3, 4, 5, 6], [0, 1, 2, 3, 4, 5, 6, 7], [], [9], [0, 1, 2, 3, 4, 5, 6, 7, 8, 9, 10], [0, 1, 2, 3, 4, 5, 6, 7, 8, 9, 10, 11], [0, 1, 2, 3, 4, 5, 6, 7, 8, 9, 10, 11, 12]]
            [none, none, none, none, none, none, some (annVal (.string J)), none, none, none, none, none, none] [false, false, false, false, false, false, true, false, false, false, false, false, false] (by kernel_rfl) (by kernel_rfl) rfl (fun _ _ d _ _ h => by cases d <;> exact h) ?_
          simp only [List.take_succ_cons, List.take_zero, pickO, List.getElem?_cons_zero, List.getElem?_cons_succ]
          iterate 6 (refine can_pure0 rfl (fun K hK => ?_); go_simp; refine hK _ ?_; clear hK K)
          refine can_mem _ rfl (by go_simp) (fun W hW hG K hK => ?_) (fun K x6 hK => ?_)
          · go_simp
            refine (HJ.out W hW).mono ?_
            rintro e w' ⟨rfl, h⟩
            exact hK default w' h trivial
          refine hK _ ?_; clear hK K
          dsimp only [annVal]
          iterate 6 (refine can_pure0 rfl (fun K hK => ?_); go_simp; refine hK _ ?_; clear hK K)
          refine can_end (fun W hW hG => ?_)
          clear hG hX0 hX1 hX2 hR1 hR2 hR3 hR4 hR5 hR6 s1 s2 s3 s4 s5 s6
          rw [HR.out]
          have HEW := Lib.hid (HEQ.out.trans hW)
          have HBW := Lib.hid (HBdQ.out.ext hW)
          have hszW := HEW.out.size
          clear hW
          refine mix_two ?_
          intro K hK
          go_simp
          refine (write_x nb nb (P1 ++ (g.2.take k).flatMap declT) (declT (d1, d2, d3)) W HBW.out (by simp only [List.length_append]; omega) (by have := HNB.out; omega)).mono ?_
          rintro e w7 ⟨rfl, h71, h72⟩
          have HE7 : Hid (Ext w4 w7) := Lib.hid (below_tr HEW.out (by have := HNB.out; rw [this]; exact h72))
          have HB7 : Hid (BdR nb nb (P1 ++ (g.2.take (k + 1)).flatMap declT) w7) := Lib.hid (by rw [HFS.out, ← List.append_assoc]; exact h71)
          clear h71 h72
          refine hK _ _ ?_
          clear hK K
          simp only [wpMix]
          go_wp2_with fail
          go_roundg (g.2.length - (k + 1))
          case measure => omega
          case rel => exact ⟨k + 1, by go_num, rfl, by omega, HB7, HE7⟩
        · obtain rfl : k = g.2.length := by omega
          have z2 : decide ((g.2.length : Int) < (g.2.length : Int)) = false := decide_eq_false (by omega)
          have hbd := HBd.out
          rw [List.take_length, ← HTL.out] at hbd
          have HBT := Lib.hid hbd
          have HF := Lib.hid (fun W => fit_x (tsgL g) W)
          obtain ⟨F, hF⟩ : ∃ F, fitF (tsgL g) = F := ⟨_, rfl⟩
          rw [hF] at HF HV2
          obtain ⟨f1, f2⟩ := F
          dsimp only at HF
          have HV : Hid (V = (f1, f2)) := HV2
          clear hbd hF HV2
          go_wp2_with fail
          refine (bstr_x nb nb (tsgL g) wr HBT.out (by have := HNB.out; omega)).mono ?_
          rintro e w7 ⟨rfl, h72⟩
          have HE7 : Hid (Ext w4 w7) := Lib.hid (below_tr HE.out (by have := HNB.out; rw [this]; exact h72))
          clear h72
          go_wp2_with fail
          refine (HF.out w7).mono ?_
          rintro e w8 ⟨rfl, hw8⟩
          have H8 := Lib.hid (H4.out.trans (HE7.out.trans hw8))
          clear hw8
          go_wp2_with fail
          go_ret2
          rw [HV.out]
          exact ⟨rfl, H8.out⟩

end Go.Proofs.YtjjaknmnhhfjeaaGreatDoor

/- Symbols and words. -/
namespace Go.Proofs.YtjjaknmnhhfjeaaGreatDoor
open Go.RowKit Go.Hw Go
set_option linter.unusedVariables false
set_option linter.unusedSimpArgs false

open Tm
def hpB (s : By) (p : List UInt8) : Bool := Lib.hasPrefix s.data.toList p
def sy4 : List (List UInt8) := [[61, 61], [33, 61], [60, 61], [45, 62]]
def symSet : List UInt8 := [40, 41, 123, 125, 91, 93, 44, 59, 58, 46, 61, 60, 43, 45, 42, 47, 37]
def byt (s : By) (i : Nat) : Nat := (s.data.toList.getD i 0).toNat
def symF (s : By) : List UInt8 := if hpB s [61, 61] = true then [61, 61] else if hpB s [33, 61] = true then [33, 61] else if hpB s [60, 61] = true then [60, 61] else if hpB s [45, 62] = true then [45, 62] else
  if 0 < s.size ∧ 0 ≤ Lib.indexByte symSet (s.data.toList.getD 0 0) then [s.data.toList.getD 0 0] else []
theorem ext01 (s : By) (h : 0 < s.size) : s.extract 0 1 = bs [s.data.toList.getD 0 0] := by
  apply ba_list
  rw [bs_data, ByteArray.data_extract, Array.toList_extract]
  have : s.data.toList.length = s.size := rfl
  cases h2 : s.data.toList with
  | nil => rw [h2] at this; simp at this; omega
  | cons a l => simp
theorem ix175 (k : Nat) (hk : k < 4) (W : World) : (Instr.index 175 (.agg #[.string ⟨#[61, 61]⟩, .string ⟨#[33, 61]⟩, .string ⟨#[60, 61]⟩, .string ⟨#[45, 62]⟩]) (.int .i64 (k : Int))).run Tryz.prog W = .ok (.string (bs (sy4.getD k []))) W := by
  rcases (by omega : k = 0 ∨ k = 1 ∨ k = 2 ∨ k = 3) with rfl | rfl | rfl | rfl <;> simp [Instr.index, run_underlying Tryz.underlying175, asIntOf, go_sem, sy4, bs]
set_option maxRecDepth 100000 in
set_option maxHeartbeats 2000000 in
theorem symbol_x (s : By) (w : World) : Calls Tryz.prog 100 #[.string s] w fun e w' => e = .returned (.string (bs (symF s))) ∧ Ext w w' := by
  obtain ⟨V, hV⟩ : ∃ V, symF s = V := ⟨_, rfl⟩
  go_enter Tryz.func100, Tryz.ntmps100
  go_wp2_with fail
  go_loopg [6] 4 (fun gk iv wr => ∃ k : Nat, iv = .int .i64 (k : Int) ∧ gk = 4 - k ∧ k ≤ 4 ∧ Hid (∀ j, j < k → hpB s (sy4.getD j []) = false) ∧ wr = w)
  case atStart => exact ⟨0, rfl, rfl, Nat.zero_le _, Lib.hid (fun j h => absurd h (Nat.not_lt_zero _)), rfl⟩
  case round =>
    obtain ⟨k, rfl, hgk, hk, HM, rfl⟩ := hrel
    by_cases hlt : k < 4
    · rcases (by omega : k = 0 ∨ k = 1 ∨ k = 2 ∨ k = 3) with rfl | rfl | rfl | rfl
      · have HPX := Lib.hid (Tryz.strings_HasPrefix s ⟨#[61, 61]⟩ wr)
        have HYS : Hid (hpB s [61, 61] = true → symF s = [61, 61]) := Lib.hid (fun h => by
          unfold symF
          skip
          rw [if_pos h])
        have HN : Hid (hpB s [61, 61] = false → ∀ j, j < 1 → hpB s (sy4.getD j []) = false) := Lib.hid (fun h j hj => by
          rcases Nat.lt_succ_iff_lt_or_eq.1 hj with h5 | h5
          · exact HM.out j h5
          · rw [h5]; exact h)
        rw [show Lib.hasPrefix s.data.toList (⟨#[61, 61]⟩ : ByteArray).data.toList = hpB s [61, 61] from rfl] at HPX
        obtain ⟨b, hb⟩ : ∃ b, hpB s [61, 61] = b := ⟨_, rfl⟩
        rw [hb] at HPX HYS HN
        clear hb hlt HM
        have hix : (Instr.index 175 (.agg #[.string ⟨#[61, 61]⟩, .string ⟨#[33, 61]⟩, .string ⟨#[60, 61]⟩, .string ⟨#[45, 62]⟩]) (.int .i64 (0 : Int))).run Tryz.prog wr = .ok (.string ⟨#[61, 61]⟩) wr := ix175 0 (by omega) wr
        go_wp2_with fail
        try rw [hix]
        try simp only [Result.andThen]
        try rw [Oper.upon_value]
        clear hix
        go_wp2_with fail
        refine HPX.out.mono ?_
        rintro e w4 ⟨rfl, rfl⟩
        clear HPX
        cases b
        · have HN2 := Lib.hid (HN.out rfl)
          go_wp2_with fail
          go_roundg (3)
          case measure => omega
          case rel => exact ⟨1, by go_num, by omega, by omega, HN2, rfl⟩
        · have HV := Lib.hid (HYS.out rfl)
          go_wp2_with fail
          go_ret
          rw [HV.out]
          exact ⟨rfl, Upd.refl _ _⟩
      · have HPX := Lib.hid (Tryz.strings_HasPrefix s ⟨#[33, 61]⟩ wr)
        have HYS : Hid (hpB s [33, 61] = true → symF s = [33, 61]) := Lib.hid (fun h => by
          unfold symF
          rw [if_neg (by rw [show hpB s [61, 61] = false from HM.out 0 (by omega)]; decide)]
          rw [if_pos h])
        have HN : Hid (hpB s [33, 61] = false → ∀ j, j < 2 → hpB s (sy4.getD j []) = false) := Lib.hid (fun h j hj => by
          rcases Nat.lt_succ_iff_lt_or_eq.1 hj with h5 | h5
          · exact HM.out j h5
          · rw [h5]; exact h)
        rw [show Lib.hasPrefix s.data.toList (⟨#[33, 61]⟩ : ByteArray).data.toList = hpB s [33, 61] from rfl] at HPX
        obtain ⟨b, hb⟩ : ∃ b, hpB s [33, 61] = b := ⟨_, rfl⟩
        rw [hb] at HPX HYS HN
        clear hb hlt HM
        have hix : (Instr.index 175 (.agg #[.string ⟨#[61, 61]⟩, .string ⟨#[33, 61]⟩, .string ⟨#[60, 61]⟩, .string ⟨#[45, 62]⟩]) (.int .i64 (1 : Int))).run Tryz.prog wr = .ok (.string ⟨#[33, 61]⟩) wr := ix175 1 (by omega) wr
        go_wp2_with fail
        try rw [hix]
        try simp only [Result.andThen]
        try rw [Oper.upon_value]
        clear hix
        go_wp2_with fail
        refine HPX.out.mono ?_
        rintro e w4 ⟨rfl, rfl⟩
        clear HPX
        cases b
        · have HN2 := Lib.hid (HN.out rfl)
          go_wp2_with fail
          go_roundg (2)
          case measure => omega
          case rel => exact ⟨2, by go_num, by omega, by omega, HN2, rfl⟩
        · have HV := Lib.hid (HYS.out rfl)
          go_wp2_with fail
          go_ret
          rw [HV.out]
          exact ⟨rfl, Upd.refl _ _⟩
      · have HPX := Lib.hid (Tryz.strings_HasPrefix s ⟨#[60, 61]⟩ wr)
        have HYS : Hid (hpB s [60, 61] = true → symF s = [60, 61]) := Lib.hid (fun h => by
          unfold symF
          rw [if_neg (by rw [show hpB s [61, 61] = false from HM.out 0 (by omega)]; decide)]; rw [if_neg (by rw [show hpB s [33, 61] = false from HM.out 1 (by omega)]; decide)]
          rw [if_pos h])
        have HN : Hid (hpB s [60, 61] = false → ∀ j, j < 3 → hpB s (sy4.getD j []) = false) := Lib.hid (fun h j hj => by
          rcases Nat.lt_succ_iff_lt_or_eq.1 hj with h5 | h5
          · exact HM.out j h5
          · rw [h5]; exact h)
        rw [show Lib.hasPrefix s.data.toList (⟨#[60, 61]⟩ : ByteArray).data.toList = hpB s [60, 61] from rfl] at HPX
        obtain ⟨b, hb⟩ : ∃ b, hpB s [60, 61] = b := ⟨_, rfl⟩
        rw [hb] at HPX HYS HN
        clear hb hlt HM
        have hix : (Instr.index 175 (.agg #[.string ⟨#[61, 61]⟩, .string ⟨#[33, 61]⟩, .string ⟨#[60, 61]⟩, .string ⟨#[45, 62]⟩]) (.int .i64 (2 : Int))).run Tryz.prog wr = .ok (.string ⟨#[60, 61]⟩) wr := ix175 2 (by omega) wr
        go_wp2_with fail
        try rw [hix]
        try simp only [Result.andThen]
        try rw [Oper.upon_value]
        clear hix
        go_wp2_with fail
        refine HPX.out.mono ?_
        rintro e w4 ⟨rfl, rfl⟩
        clear HPX
        cases b
        · have HN2 := Lib.hid (HN.out rfl)
          go_wp2_with fail
          go_roundg (1)
          case measure => omega
          case rel => exact ⟨3, by go_num, by omega, by omega, HN2, rfl⟩
        · have HV := Lib.hid (HYS.out rfl)
          go_wp2_with fail
          go_ret
          rw [HV.out]
          exact ⟨rfl, Upd.refl _ _⟩
      · have HPX := Lib.hid (Tryz.strings_HasPrefix s ⟨#[45, 62]⟩ wr)
        have HYS : Hid (hpB s [45, 62] = true → symF s = [45, 62]) := Lib.hid (fun h => by
          unfold symF
          rw [if_neg (by rw [show hpB s [61, 61] = false from HM.out 0 (by omega)]; decide)]; rw [if_neg (by rw [show hpB s [33, 61] = false from HM.out 1 (by omega)]; decide)]; rw [if_neg (by rw [show hpB s [60, 61] = false from HM.out 2 (by omega)]; decide)]
          rw [if_pos h])
        have HN : Hid (hpB s [45, 62] = false → ∀ j, j < 4 → hpB s (sy4.getD j []) = false) := Lib.hid (fun h j hj => by
          rcases Nat.lt_succ_iff_lt_or_eq.1 hj with h5 | h5
          · exact HM.out j h5
          · rw [h5]; exact h)
        rw [show Lib.hasPrefix s.data.toList (⟨#[45, 62]⟩ : ByteArray).data.toList = hpB s [45, 62] from rfl] at HPX
        obtain ⟨b, hb⟩ : ∃ b, hpB s [45, 62] = b := ⟨_, rfl⟩
        rw [hb] at HPX HYS HN
        clear hb hlt HM
        have hix : (Instr.index 175 (.agg #[.string ⟨#[61, 61]⟩, .string ⟨#[33, 61]⟩, .string ⟨#[60, 61]⟩, .string ⟨#[45, 62]⟩]) (.int .i64 (3 : Int))).run Tryz.prog wr = .ok (.string ⟨#[45, 62]⟩) wr := ix175 3 (by omega) wr
        go_wp2_with fail
        try rw [hix]
        try simp only [Result.andThen]
        try rw [Oper.upon_value]
        clear hix
        go_wp2_with fail
        refine HPX.out.mono ?_
        rintro e w4 ⟨rfl, rfl⟩
        clear HPX
        cases b
        · have HN2 := Lib.hid (HN.out rfl)
          go_wp2_with fail
          go_roundg (0)
          case measure => omega
          case rel => exact ⟨4, by go_num, by omega, by omega, HN2, rfl⟩
        · have HV := Lib.hid (HYS.out rfl)
          go_wp2_with fail
          go_ret
          rw [HV.out]
          exact ⟨rfl, Upd.refl _ _⟩
    · obtain rfl : k = 4 := by omega
      have HS : Hid (symF s = if 0 < s.size ∧ 0 ≤ Lib.indexByte symSet (s.data.toList.getD 0 0) then [s.data.toList.getD 0 0] else []) := Lib.hid (by
        unfold symF
        rw [if_neg (by rw [show hpB s [61, 61] = false from HM.out 0 (by omega)]; decide), if_neg (by rw [show hpB s [33, 61] = false from HM.out 1 (by omega)]; decide), if_neg (by rw [show hpB s [60, 61] = false from HM.out 2 (by omega)]; decide), if_neg (by rw [show hpB s [45, 62] = false from HM.out 3 (by omega)]; decide)])
      clear HM hlt hgk
      by_cases h0 : 0 < s.size
      · obtain ⟨z1, z2, z3, z4⟩ := nonempty_t s h0
        have hat : s.data.toList.getD 0 0 = s[0]'h0 := at_list s 0 h0
        have HX := Lib.hid (ext01 s h0)
        have HIB := Lib.hid (Tryz.strings_IndexByte ⟨#[40, 41, 123, 125, 91, 93, 44, 59, 58, 46, 61, 60, 43, 45, 42, 47, 37]⟩ ((s[0]'h0).toNat : Int) wr)
        have e9 : (((s[0]'h0).toNat : Int)).toNat.toUInt8 = s.data.toList.getD 0 0 := by rw [hat]; simp
        rw [e9, show (⟨#[40, 41, 123, 125, 91, 93, 44, 59, 58, 46, 61, 60, 43, 45, 42, 47, 37]⟩ : ByteArray).data.toList = symSet from rfl] at HIB
        obtain ⟨X, hX⟩ : ∃ X, Lib.indexByte symSet (s.data.toList.getD 0 0) = X := ⟨_, rfl⟩
        rw [hX] at HIB HS
        by_cases hx : 0 ≤ X
        · have HV : Hid (symF s = [s.data.toList.getD 0 0]) := Lib.hid (by rw [HS.out, if_pos ⟨h0, hx⟩])
          have t1 : decide ((0 : Int) ≤ X) = true := decide_eq_true hx
          have i1 : (1 : Int) ≤ (s.size : Int) := by omega
          clear hat e9 hX HS
          go_wp2_with fail
          refine HIB.out.mono ?_
          rintro e w4 ⟨rfl, rfl⟩
          go_wp2_with fail
          go_ret
          rw [HX.out, HV.out]
          exact ⟨rfl, Upd.refl _ _⟩
        · have HV : Hid (symF s = []) := Lib.hid (by rw [HS.out, if_neg (fun h => hx h.2)])
          have t1 : decide ((0 : Int) ≤ X) = false := decide_eq_false hx
          clear hat e9 hX HS
          go_wp2_with fail
          refine HIB.out.mono ?_
          rintro e w4 ⟨rfl, rfl⟩
          go_wp2_with fail
          go_ret
          rw [HV.out]
          exact ⟨rfl, Upd.refl _ _⟩
      · have HV : Hid (symF s = []) := Lib.hid (by rw [HS.out, if_neg (fun h => h0 h.1)])
        obtain rfl := empty_is s (by omega)
        clear HS h0
        go_wp2_with fail
        go_ret
        rw [HV.out]
        exact ⟨rfl, Upd.refl _ _⟩
theorem st5_heap {W : World} {z : Nat} {t : TypeId} {v0 v1 v2 v3 v4 : Value} (h : W.heap[z]? = some (.cells #[v0, v1, v2, v3, v4] t (0, 0))) (u0 u1 u2 u3 u4 : Value) : (((((W.setCell ⟨z, 0, none⟩ u0).setCell ⟨z, 1, none⟩ u1).setCell ⟨z, 2, none⟩ u2).setCell ⟨z, 3, none⟩ u3).setCell ⟨z, 4, none⟩ u4).heap[z]? = some (.cells #[u0, u1, u2, u3, u4] t (0, 0)) := by
  have := setBlock (setBlock (setBlock (setBlock (setBlock h 0 u0) 1 u1) 2 u2) 3 u3) 4 u4
  simpa using this
theorem st5_upd (W : World) (z : Nat) (u0 u1 u2 u3 u4 : Value) : Upd (fun k => k = z) W (((((W.setCell ⟨z, 0, none⟩ u0).setCell ⟨z, 1, none⟩ u1).setCell ⟨z, 2, none⟩ u2).setCell ⟨z, 3, none⟩ u3).setCell ⟨z, 4, none⟩ u4) :=
  (((((Upd.refl (fun k => k = z) W).setCell (p := ⟨z, 0, none⟩) (.inl rfl) u0).setCell (p := ⟨z, 1, none⟩) (.inl rfl) u1).setCell (p := ⟨z, 2, none⟩) (.inl rfl) u2).setCell (p := ⟨z, 3, none⟩) (.inl rfl) u3).setCell (p := ⟨z, 4, none⟩) (.inl rfl) u4
structure Wd where
  kind : Nat
  text : By
  n : Int
  ok : Bool
def wdF (iF : By → Int × Bool) (s : By) : Wd := if kwB s = true then ⟨3, s, 0, true⟩ else if nmB s = true then ⟨1, s, 0, true⟩ else ⟨2, nul, (iF s).1, (iF s).2⟩
def WdR (q : Wd) (e : Ending) : Prop := e = .returned (.tuple #[.agg #[.int .i64 (q.kind : Int), .string q.text, .int .i64 q.n, .int .i64 0, .int .i64 0], .bool q.ok])
set_option maxRecDepth 100000 in
set_option maxHeartbeats 2000000 in
theorem pword_x (iF : By → Int × Bool) (s : By) (w : World) (htab : AscT w) (hint : kwB s = true ∨ nmB s = true ∨ ∀ W, Ext w W → Calls Tryz.prog 124 #[.string s] W fun e W' => e = .returned (.tuple #[.int .i64 (iF s).1, .bool (iF s).2]) ∧ Ext W W') :
    Calls Tryz.prog 99 #[.string s] w fun e w' => WdR (wdF iF s) e ∧ Ext w w' := by
  have HE := Lib.hid ((Upd.refl (fun _ => False) w).alloc (.cells #[.int .i64 0, .string ⟨#[]⟩, .int .i64 0, .int .i64 0, .int .i64 0] 114))
  have HB := Lib.hid (alloc0 w (.cells #[.int .i64 0, .string ⟨#[]⟩, .int .i64 0, .int .i64 0, .int .i64 0] 114))
  have HK := Lib.hid (isKeyword_x s (w.alloc (.cells #[.int .i64 0, .string ⟨#[]⟩, .int .i64 0, .int .i64 0, .int .i64 0] 114)) (asc_ext htab HE.out))
  have HIN := Lib.hid (fun W (hW : Ext w W) => isName_x s W (asc_ext htab hW))
  have HI := Lib.hid hint
  have HSZ : Hid (w.heap.size + 1 ≤ (w.alloc (.cells #[.int .i64 0, .string ⟨#[]⟩, .int .i64 0, .int .i64 0, .int .i64 0] 114)).heap.size) := Lib.hid (by simp)
  have HV : Hid (wdF iF s = if kwB s = true then ⟨3, s, 0, true⟩ else if nmB s = true then ⟨1, s, 0, true⟩ else ⟨2, nul, (iF s).1, (iF s).2⟩) := Lib.hid rfl
  obtain ⟨V, hV⟩ : ∃ V, wdF iF s = V := ⟨_, rfl⟩
  rw [hV] at HV ⊢
  clear hV htab hint
  obtain ⟨b1, hb1⟩ : ∃ b, kwB s = b := ⟨_, rfl⟩
  rw [hb1] at HK HV HI
  go_enter Tryz.func99, Tryz.ntmps99
  go_wp2_with fail
  generalize w.alloc (.cells #[.int .i64 0, .string ⟨#[]⟩, .int .i64 0, .int .i64 0, .int .i64 0] 114) = w1 at *
  refine HK.out.mono ?_
  rintro e w4 ⟨rfl, hw4⟩
  have H4 := Lib.hid (HE.out.trans hw4)
  have HB4 := Lib.hid (hw4.heap HB.out (fun h => h))
  have hs4 := hw4.size
  have hsz := HSZ.out
  clear hw4 HK hb1
  cases b1
  case true =>
    have HV2 : Hid (V = ⟨3, s, 0, true⟩) := Lib.hid (by rw [HV.out]; rfl)
    have f0 := fun i => frozenRow HB4.out i
    have d0 := cellRow HB4.out 0 (.int .i64 0) rfl
    have d1 := cellRow HB4.out 1 (.string ⟨#[]⟩) rfl
    have d2 := cellRow HB4.out 2 (.int .i64 0) rfl
    have d3 := cellRow HB4.out 3 (.int .i64 0) rfl
    have d4 := cellRow HB4.out 4 (.int .i64 0) rfl
    go_wp2_with fail
    have hr5 := st5_heap HB4.out (.int .i64 3) (.string s) (.int .i64 0) (.int .i64 0) (.int .i64 0)
    have hu := st5_upd w4 w.heap.size (.int .i64 3) (.string s) (.int .i64 0) (.int .i64 0) (.int .i64 0)
    have e0 := cellRow hr5 0 _ rfl
    have e1 := cellRow hr5 1 _ rfl
    have e2 := cellRow hr5 2 _ rfl
    have e3 := cellRow hr5 3 _ rfl
    have e4 := cellRow hr5 4 _ rfl
    refine bodyPost_ret (v := .tuple #[.agg #[.int .i64 3, .string s, .int .i64 0, .int .i64 0, .int .i64 0], .bool true]) (by simp [results, Tryz.results99, go_sem, e0, e1, e2, e3, e4]) rfl ?_
    have hue := H4.out.trans' hu (fun j hj e => by omega)
    rw [HV2.out]; exact ⟨rfl, hue⟩
  have HN := Lib.hid (HIN.out w4 H4.out)
  obtain ⟨b2, hb2⟩ : ∃ b, nmB s = b := ⟨_, rfl⟩
  rw [hb2] at HN HV HI
  clear hb2
  go_wp2_with fail
  refine HN.out.mono ?_
  rintro e w5 ⟨rfl, hw5⟩
  have H5 := Lib.hid (H4.out.trans hw5)
  have HB5 := Lib.hid (hw5.heap HB4.out (fun h => h))
  have hs5 := hw5.size
  clear hw5 HN HB4
  cases b2
  case true =>
    have HV2 : Hid (V = ⟨1, s, 0, true⟩) := Lib.hid (by rw [HV.out]; rfl)
    have f0 := fun i => frozenRow HB5.out i
    have d0 := cellRow HB5.out 0 (.int .i64 0) rfl
    have d1 := cellRow HB5.out 1 (.string ⟨#[]⟩) rfl
    have d2 := cellRow HB5.out 2 (.int .i64 0) rfl
    have d3 := cellRow HB5.out 3 (.int .i64 0) rfl
    have d4 := cellRow HB5.out 4 (.int .i64 0) rfl
    go_wp2_with fail
    have hr5 := st5_heap HB5.out (.int .i64 1) (.string s) (.int .i64 0) (.int .i64 0) (.int .i64 0)
    have hu := st5_upd w5 w.heap.size (.int .i64 1) (.string s) (.int .i64 0) (.int .i64 0) (.int .i64 0)
    have e0 := cellRow hr5 0 _ rfl
    have e1 := cellRow hr5 1 _ rfl
    have e2 := cellRow hr5 2 _ rfl
    have e3 := cellRow hr5 3 _ rfl
    have e4 := cellRow hr5 4 _ rfl
    refine bodyPost_ret (v := .tuple #[.agg #[.int .i64 1, .string s, .int .i64 0, .int .i64 0, .int .i64 0], .bool true]) (by simp [results, Tryz.results99, go_sem, e0, e1, e2, e3, e4]) rfl ?_
    have hue := H5.out.trans' hu (fun j hj e => by omega)
    rw [HV2.out]; exact ⟨rfl, hue⟩
  have HI2 := Lib.hid ((HI.out.resolve_left (by decide)).resolve_left (by decide) w5 H5.out)
  have HV2 : Hid (V = ⟨2, nul, (iF s).1, (iF s).2⟩) := Lib.hid (by rw [HV.out]; rfl)
  obtain ⟨⟨n1, n2⟩, hn⟩ : ∃ p, iF s = p := ⟨_, rfl⟩
  rw [hn] at HI2 HV2
  dsimp only at HI2 HV2
  clear hn HI
  go_wp2_with fail
  refine HI2.out.mono ?_
  rintro e w6 ⟨rfl, hw6⟩
  have H6 := Lib.hid (H5.out.trans hw6)
  have HB6 := Lib.hid (hw6.heap HB5.out (fun h => h))
  have hs6 := hw6.size
  clear hw6 HI2 HB5
  have f0 := fun i => frozenRow HB6.out i
  have d0 := cellRow HB6.out 0 (.int .i64 0) rfl
  have d1 := cellRow HB6.out 1 (.string ⟨#[]⟩) rfl
  have d2 := cellRow HB6.out 2 (.int .i64 0) rfl
  have d3 := cellRow HB6.out 3 (.int .i64 0) rfl
  have d4 := cellRow HB6.out 4 (.int .i64 0) rfl
  go_wp2_with fail
  have hr5 := st5_heap HB6.out (.int .i64 2) (.string ⟨#[]⟩) (.int .i64 n1) (.int .i64 0) (.int .i64 0)
  have hu := st5_upd w6 w.heap.size (.int .i64 2) (.string ⟨#[]⟩) (.int .i64 n1) (.int .i64 0) (.int .i64 0)
  have e0 := cellRow hr5 0 _ rfl
  have e1 := cellRow hr5 1 _ rfl
  have e2 := cellRow hr5 2 _ rfl
  have e3 := cellRow hr5 3 _ rfl
  have e4 := cellRow hr5 4 _ rfl
  refine bodyPost_ret (v := .tuple #[.agg #[.int .i64 2, .string ⟨#[]⟩, .int .i64 n1, .int .i64 0, .int .i64 0], .bool n2]) (by simp [results, Tryz.results99, go_sem, e0, e1, e2, e3, e4]) rfl ?_
  have hue := H6.out.trans' hu (fun j hj e => by omega)
  rw [HV2.out]; exact ⟨rfl, hue⟩

end Go.Proofs.YtjjaknmnhhfjeaaGreatDoor
