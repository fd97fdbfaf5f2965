/- slices.Repeat. -/
import Derived.Test.YthpekfpeoglbgaaGreatDoorW10
import Derived.Test.YthpekfpeoglbgaaGreatDoorL3
import Derived.Laws.CopyOwn
import Derived.IntWalk
namespace Go.Proofs.YthpekfpeoglbgaaGreatDoor
open Go.RowKit Go.Hw
set_option linter.unusedVariables false
set_option linter.unusedSimpArgs false

theorem wrap_u64' (n : Int) : IntKind.u64.wrap n = n % 18446744073709551616 := by simp [IntKind.wrap, IntKind.bits, IntKind.signed]
theorem and_low (y : Nat) (hy : y ≤ 4294967295) : bits .and .u64 (y : Int) 4294967295 = y := by
  show IntKind.u64.wrap ((BitVec.ofInt 64 (y : Int) &&& BitVec.ofInt 64 4294967295).toNat : Int) = _
  have e1 : BitVec.ofInt 64 (y : Int) = BitVec.ofNat 64 y := by rw [BitVec.ofInt_natCast]
  have e2 : BitVec.ofInt 64 4294967295 = BitVec.ofNat 64 (2 ^ 32 - 1) := by rfl
  rw [e1, e2, BitVec.toNat_and, BitVec.toNat_ofNat, BitVec.toNat_ofNat, Nat.mod_eq_of_lt (by omega : y < 2 ^ 64), Nat.mod_eq_of_lt (by omega : 2 ^ 32 - 1 < 2 ^ 64), Nat.and_two_pow_sub_one_eq_mod, Nat.mod_eq_of_lt (by omega), wrap_u64']
  omega
set_option maxHeartbeats 400000 in
theorem mul64_one (y : Nat) (w : World) (hy : y ≤ 100000) : Calls Tryz.prog 60 #[.int .u64 1, .int .u64 y] w fun e w' => e = .returned (.tuple #[.int .u64 0, .int .u64 y]) ∧ w = w' := by
  have a1 : bits .and .u64 1 4294967295 = 1 := and_low 1 (by omega)
  have a2 : bits .and .u64 (y : Int) 4294967295 = y := and_low y (by omega)
  have a0 : bits .and .u64 0 4294967295 = 0 := and_low 0 (by omega)
  have a3 : (y : Int) / 4294967296 = 0 := by omega
  have w1 : IntKind.u64.wrap (y : Int) = y := by rw [wrap_u64']; omega
  have w0 : IntKind.u64.wrap 0 = 0 := by decide
  go_enter Tryz.func60, Tryz.ntmps60
  go_wp2
  go_ret2
  exact ⟨rfl, rfl⟩
set_option maxHeartbeats 400000 in
theorem mul_one (y : Nat) (w : World) (hy : y ≤ 100000) : Calls Tryz.prog 32 #[.int .u64 1, .int .u64 y] w fun e w' => e = .returned (.tuple #[.int .u64 0, .int .u64 y]) ∧ w = w' := by
  have H := Lib.hid (mul64_one y w hy)
  go_enter Tryz.func32, Tryz.ntmps32
  go_wp2_with fail
  refine H.out.mono ?_
  rintro e w2 ⟨rfl, rfl⟩
  go_wp2_with fail
  go_ret2
  exact ⟨rfl, rfl⟩
theorem ext_of_below {a b : World} (h : Below a.heap.size a b) : Ext a b := ⟨h.os, h.tape, h.output, h.size, fun k hk _ => h.block k hk⟩
theorem splice_rep (x : Value) (z : Value) (c n m : Nat) (hn : n + m ≤ c) : splice (List.replicate n x ++ List.replicate (c - n) z) n (List.replicate m x) = List.replicate (n + m) x ++ List.replicate (c - (n + m)) z := by
  unfold splice
  rw [List.take_append_of_le_length (by simp), List.take_of_length_le (by simp), List.drop_append, List.length_replicate, List.length_replicate, List.drop_eq_nil_of_le (by simp), List.nil_append, List.drop_replicate, ← List.append_assoc, List.replicate_append_replicate]
  congr 2
  omega
theorem made_list (z : Value) (c : Nat) : madeCells #[z] c = (List.replicate c z).toArray := by
  apply Array.ext
  · simp [size_madeCells]
  · intro i h1 h2
    have := made_get z c i (by rw [size_madeCells] at h1; exact h1)
    rw [Array.getElem?_eq_getElem h1] at this
    simp at this ⊢
    exact this
set_option maxRecDepth 100000 in
set_option maxHeartbeats 2000000 in
/-- slices.Repeat of one number -/
theorem repeat_any (x : Int) (sg sc c : Nat) (w : World) (hx : w.cell? ⟨sg, 0, none⟩ = some (.int .i64 x)) (hc1 : 1 ≤ c) (hc : c ≤ 100000) :
    Calls Tryz.prog 12 #[.slice (some ⟨sg, 0, none⟩) 1 sc, .int .i64 c] w fun e w' => e = .returned (.slice (some ⟨w.heap.size, 0, none⟩) c c) ∧ w'.heap[w.heap.size]? = some (.cells (List.replicate c (Value.int .i64 x)).toArray 3) ∧ Ext w w' := by
  obtain ⟨i0, hi0, hz0, hz1, hz2⟩ := info_parts info3
  have hmk := fun W => made_one Tryz.prog 38 3 i0 (.int .i64 0) Tryz.underlying38 hi0 hz0 hz1 rfl (by rw [hz2]; omega) c (by omega) W
  have HM := Lib.hid (mul_one c w hc)
  have hsz : (Tryz.prog.info? 3).map (·.size) = some 1 := by rw [hi0]; simp [hz1]
  have HSZ := Lib.hid hsz
  have hsl : sg < w.heap.size := World.block_lt_of_cell? w _ hx
  have HX : Hid (∀ W, Ext w W → W.cell? ⟨sg, 0, none⟩ = some (.int .i64 x)) := fun W hW => hW.cell hx (fun h => h)
  have wc : IntKind.u64.wrap (c : Int) = c := by rw [wrap_u64']; omega
  have wc2 : IntKind.i64.wrap (c : Int) = c := IntWalk.i64_in _ (by omega)
  have hg0 : (w.alloc (.cells (madeCells #[.int .i64 0] c) 3)).heap[w.heap.size]? = some (.cells (List.replicate c (Value.int .i64 0)).toArray 3) := by rw [← made_list]; exact alloc0 _ _
  have HG0 := Lib.hid hg0
  have HE0 : Hid (Ext w (w.alloc (.cells (madeCells #[.int .i64 0] c) 3))) := (Upd.refl _ w).alloc _
  clear hz0 hz1 hz2 hi0 hsz hg0 hx
  go_enter Tryz.func12, Tryz.ntmps12
  go_wp2_with fail
  refine HM.out.mono ?_
  rintro e w2 ⟨rfl, rfl⟩
  go_wp2_with (with_reducible (refine stop_at (o := ⟨some 33, _, _, _, _, _⟩) ?_))
  refine Stop.go ?_
  refine wpList_copy_splice rfl (.tmp 31) (.tmp 32) 38 38 rfl 3 Tryz.underlying38 HSZ.out (some ⟨w.heap.size, 0, none⟩) (some ⟨sg, 0, none⟩) c c 1 sc rfl rfl w.heap.size 0 (List.replicate c (Value.int .i64 0)) 3 HG0.out [.int .i64 x] (Nat.min_eq_left hc1).symm ?c2 ?c3 ?c4 w.heap.size w HE0.out.below (Nat.le_refl _) ?_
  case c2 =>
    intro _
    refine ⟨rfl, ⟨sg, 0, none⟩, rfl, fun j v hj => ?_⟩
    match j, hj with
    | 0, hj => simp at hj; subst hj; exact HX.out _ HE0.out
  case c3 => simp; omega
  case c4 => intro v hv; simp at hv; subst hv; rfl
  intro w3 hg3 hb3
  have he1 : splice (List.replicate c (Value.int .i64 0)) 0 [.int .i64 x] = List.replicate 1 (Value.int .i64 x) ++ List.replicate (c - 1) (Value.int .i64 0) := by
    have := splice_rep (Value.int .i64 x) (Value.int .i64 0) c 0 1 (by omega)
    simpa using this
  have HG3 : Hid (w3.heap[w.heap.size]? = some (.cells (List.replicate 1 (Value.int .i64 x) ++ List.replicate (c - 1) (Value.int .i64 0)).toArray 3)) := by rw [← he1]; exact hg3.out
  have HE3 := Lib.hid (ext_of_below hb3)
  clear hg3 hb3 he1 hmk
  generalize hb : w.heap.size = b at *
  have Hb := Lib.hid hb
  clear hb
  go_wp2_with fail
  go_loopg [8] (c - 1) (fun gk nv wr => ∃ k : Nat, nv = .int .i64 k ∧ gk = c - k ∧ 1 ≤ k ∧ k ≤ c ∧ Hid (Ext w wr) ∧ Hid (wr.heap[b]? = some (.cells (List.replicate k (Value.int .i64 x) ++ List.replicate (c - k) (Value.int .i64 0)).toArray 3)))
  case atStart => exact ⟨1, rfl, rfl, Nat.le_refl _, hc1, HE3.out, HG3.out⟩
  case round =>
    obtain ⟨k, rfl, rfl, hk1, hkc, HE, HG⟩ := hrel
    by_cases hlt : k < c
    · have i1 : (0 : Int) ≤ (k : Int) := by omega
      have i2 : (k : Int) ≤ (c : Int) := by omega
      have hne : ¬ (c = k) := by omega
      have hk0 : ¬ (k = 0) := by omega
      obtain ⟨m, hm⟩ : ∃ m, m = Nat.min k (c - k) := ⟨_, rfl⟩
      have hm1 : m ≤ k := by rw [hm]; exact Nat.min_le_left _ _
      have hm2 : m ≤ c - k := by rw [hm]; exact Nat.min_le_right _ _
      have hm3 : 1 ≤ m := by rw [hm]; exact Nat.le_min.2 ⟨hk1, by omega⟩
      have Hm := Lib.hid hm
      have HLn : Hid ((List.replicate m (Value.int .i64 x)).length = Nat.min k (c - k)) := by show _ = _; rw [List.length_replicate]; exact hm
      have Hfit : Hid (k + (List.replicate m (Value.int .i64 x)).length ≤ (List.replicate k (Value.int .i64 x) ++ List.replicate (c - k) (Value.int .i64 0)).length) := by show _ ≤ _; simp; omega
      have H1c : Hid (∀ v ∈ List.replicate m (Value.int .i64 x), v.oneCell' = true) := fun v hv => by rw [List.eq_of_mem_replicate hv]; rfl
      have Hsrc : Hid (∃ ad, some (⟨b, 0, none⟩ : Addr) = some ad ∧ ∀ j v, (List.replicate m (Value.int .i64 x))[j]? = some v → wr.drew.cell? (ad.add j) = some v) := by
        refine ⟨⟨b, 0, none⟩, rfl, fun j v hj => ?_⟩
        have hjm : j < m := by have := (List.getElem?_eq_some_iff.1 hj).1; simpa using this
        have hv : v = Value.int .i64 x := by rw [List.getElem?_replicate] at hj; simp [hjm] at hj; exact hj.symm
        have e : (⟨b, 0, none⟩ : Addr).add j = ⟨b, j, none⟩ := by
          unfold Addr.add
          split
          · rename_i h0; simp [h0]
          · simp
        rw [e, hv]
        refine (cell_of_row wr b j _ 3 _ HG.out).trans ?_
        simp
        rw [List.getElem?_append_left (by simp; omega), List.getElem?_replicate]
        simp; omega
      have Hspl := Lib.hid (splice_rep (Value.int .i64 x) (Value.int .i64 0) c k m (by omega))
      have s5 : IntKind.i64.wrap ((k : Int) + (m : Int)) = (k : Int) + (m : Int) := IntWalk.i64_in _ (by omega)
      have Hgi : Hid (goInt (List.replicate m (Value.int .i64 x)).length = .int .i64 m) := by show _ = _; rw [List.length_replicate]; rfl
      have HB0 : Hid (Below w.heap.size w wr.drew) := Ext.below (Upd.drew HE.out)
      have Hbb : Hid (w.heap.size ≤ b) := Nat.le_of_eq Hb.out
      clear hm
      go_wp2_with fail
      refine wp_region_mix [(0, 0), (1, 0), (2, 0), (3, 0), (4, 0), (5, 0), (6, 0), (7, 1), (8, 2), (9, 2)] 8 (fun _ => True) (by kernel_rfl) (by kernel_rfl) (fun _ _ d _ _ h => by cases d <;> exact h) trivial ?_
      simp only [pickO, List.getElem?_cons_zero, List.getElem?_cons_succ]
      iterate 7 (refine mix_take (fun K hK => ?_); go_simp; refine hK _ ?_; clear hK K)
      refine mix_one (fun K hK hS => ?_) trivial
      refine step_copy_splice rfl (.tmp 41) (.tmp 44) 38 38 rfl 3 Tryz.underlying38 HSZ.out (some ⟨b, k, none⟩) (some ⟨b, 0, none⟩) (c - k) (c - k) k c rfl rfl b k _ 3 HG.out (List.replicate m (Value.int .i64 x)) HLn.out (fun _ => ⟨rfl, Hsrc.out⟩) Hfit.out H1c.out w.heap.size w HB0.out Hbb.out ?_
      intro w5 hg5 hb5
      rw [Hgi.out]
      have HG5 : Hid (w5.heap[b]? = some (.cells (List.replicate (k + m) (Value.int .i64 x) ++ List.replicate (c - (k + m)) (Value.int .i64 0)).toArray 3)) := by rw [← Hspl.out]; exact hg5.out
      have HE5 := Lib.hid (ext_of_below hb5)
      clear hg5 hb5
      refine hK _ _ trivial ?_
      clear hK K hS
      iterate 2 (refine mix_two (fun K hK => ?_); go_simp; refine hK _ _ ?_; clear hK K)
      simp only [wpMix]
      go_wp2_with fail
      go_roundg (c - (k + m))
      case measure => omega
      case rel => exact ⟨k + m, by go_num, rfl, by omega, by omega, HE5.out, HG5.out⟩
    · obtain rfl : k = c := by omega
      go_wp2_with fail
      go_ret
      rw [Hb.out]
      refine ⟨rfl, ?_, HE.out⟩
      have := HG.out
      rw [Nat.sub_self, List.replicate_zero, List.append_nil] at this
      exact this

end Go.Proofs.YthpekfpeoglbgaaGreatDoor
