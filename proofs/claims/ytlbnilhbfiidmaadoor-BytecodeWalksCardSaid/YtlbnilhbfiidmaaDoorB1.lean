/- great. -/
import Derived.Test.YtlbnilhbfiidmaaDoorA
namespace Go.Proofs.YtlbnilhbfiidmaaDoor
open Go.RowKit Go.Hw
set_option linter.unusedVariables false
set_option linter.unusedSimpArgs false

def GreatP (c : Cd) (w : World) (e : Ending) (w' : World) : Prop := ∃ b : Bool, e = .returned (.bool b) ∧ (b = false → totL c.funcs ≤ 600 ∧ c.funcs.length ≤ 60) ∧ Ext w w'
theorem totL_snoc (l : List Fn) (j : Nat) (h : j < l.length) : totL (l.take (j + 1)) = totL (l.take j) + (l.getD j default).code.length := by
  unfold totL
  rw [List.take_succ_eq_append_getElem h, List.map_append, List.sum_append]
  simp [h]
set_option maxHeartbeats 2000000 in
/-- great -/
theorem great_x (a fv : Value) (c : Cd) (w : World) (h : CdR w a fv c) : Calls Tryd.prog 6 #[.agg #[a, .int .i64 c.glob, fv]] w (GreatP c w) := by
  obtain ⟨⟨xa, ca, rfl⟩, xf, cf, rfl⟩ := h.shapes
  have HN := Lib.hid h
  have HX : Hid (∀ W, Ext (w.alloc (.cells #[.slice xa c.fields.length ca, .int .i64 c.glob, .slice xf c.funcs.length cf] 25)) W → W.heap[w.heap.size]? = some (.cells #[.slice xa c.fields.length ca, .int .i64 c.glob, .slice xf c.funcs.length cf] 25)) := fun W hW => hW.heap (alloc0 w _) (fun h => h)
  have HE0 : Hid (Ext w (w.alloc (.cells #[.slice xa c.fields.length ca, .int .i64 c.glob, .slice xf c.funcs.length cf] 25))) := (Upd.refl _ w).alloc _
  have hl1 := h.l1
  have hl2 := h.l2
  clear h
  go_enter Tryd.func6, Tryd.ntmps6
  go_wp2_with fail
  go_loopg [3, 5, 9] c.funcs.length (fun gk s3 _ i wr => ∃ j n : Nat, s3 = .int .i64 n ∧ i = .int .i64 j ∧ gk = c.funcs.length - j ∧ j ≤ c.funcs.length ∧ n ≤ 600 ∧ Hid (totL (c.funcs.take j) = n) ∧ Hid (Ext (w.alloc (.cells #[.slice xa c.fields.length ca, .int .i64 c.glob, .slice xf c.funcs.length cf] 25)) wr))
  case atStart => exact ⟨0, 0, rfl, rfl, rfl, Nat.zero_le _, by omega, rfl, Upd.refl _ _⟩
  case round =>
    obtain ⟨j, n, rfl, rfl, rfl, hj, hn, HT, HE⟩ := hrel
    have hz := HX.out wr HE.out
    have k0 := cellRow hz 0 _ rfl
    have k1 := cellRow hz 1 _ rfl
    have k2 := cellRow hz 2 _ rfl
    clear hz
    by_cases hlt : j < c.funcs.length
    · have HT2 := Lib.hid (totL_snoc c.funcs j hlt)
      obtain ⟨g, off, cap', hv, hcap, c0, c1, c2, c3, c4, hf⟩ := (HN.out.kept (HE0.out.ext HE.out)).at hlt
      injection hv with e1 e2 e3
      subst e1; subst e3
      obtain ⟨x2, cap2, hv2⟩ := hf.shape
      have hl3 := hf.len
      have hl4 := hf.nlen
      rw [hv2] at c4
      have i0' : (0 : Int) ≤ (j : Int) := by omega
      have i1' : (j : Int) < (c.funcs.length : Int) := by omega
      clear e2 hf
      have E2 := Lib.hid (HE.out.alloc (.cells #[.string (c.funcs.getD j default).name, .int .i64 (c.funcs.getD j default).params, .int .i64 (c.funcs.getD j default).locals, .bool (c.funcs.getD j default).result, .slice x2 (c.funcs.getD j default).code.length cap2] 39))
      by_cases p1 : 100 < (c.funcs.getD j default).name.size
      · have p1' : (100 : Int) < ((c.funcs.getD j default).name.size : Int) := by omega
        clear HT HT2
        generalize (c.funcs.getD j default).name = NM at *
        generalize (c.funcs.getD j default).params = PA at *
        generalize (c.funcs.getD j default).locals = LO at *
        generalize (c.funcs.getD j default).result = RE at *
        generalize (c.funcs.getD j default).code.length = CL at *
        go_wp2_with fail
        go_ret
        exact ⟨true, rfl, fun h => Bool.noConfusion h, HE0.out.ext E2.out⟩
      · have p1' : ¬ (100 : Int) < ((c.funcs.getD j default).name.size : Int) := by omega
        by_cases p2 : 600 < n + (c.funcs.getD j default).code.length
        · have p2' : (600 : Int) < (n : Int) + ((c.funcs.getD j default).code.length : Int) := by omega
          clear HT HT2
          generalize (c.funcs.getD j default).name = NM at *
          generalize (c.funcs.getD j default).params = PA at *
          generalize (c.funcs.getD j default).locals = LO at *
          generalize (c.funcs.getD j default).result = RE at *
          generalize (c.funcs.getD j default).code.length = CL at *
          go_wp2_with fail
          go_ret
          exact ⟨true, rfl, fun h => Bool.noConfusion h, HE0.out.ext E2.out⟩
        · have p2' : ¬ (600 : Int) < (n : Int) + ((c.funcs.getD j default).code.length : Int) := by omega
          have HT3 : Hid (totL (c.funcs.take (j + 1)) = n + (c.funcs.getD j default).code.length) := by rw [HT2.out, HT.out]; exact rfl
          clear HT HT2
          generalize (c.funcs.getD j default).name = NM at *
          generalize (c.funcs.getD j default).params = PA at *
          generalize (c.funcs.getD j default).locals = LO at *
          generalize (c.funcs.getD j default).result = RE at *
          generalize (c.funcs.getD j default).code.length = CL at *
          go_wp2_with fail
          go_roundg (c.funcs.length - (j + 1))
          case measure => omega
          case rel => exact ⟨j + 1, n + CL, by go_num, by go_num, rfl, by omega, by omega, HT3, E2⟩
    · have HT3 : Hid (totL c.funcs = n) := by rw [← HT.out, List.take_of_length_le (by omega)]; exact rfl
      clear HT
      by_cases q1 : 20 < c.fields.length
      · have q1' : (20 : Int) < (c.fields.length : Int) := by omega
        go_wp2_with fail
        go_ret
        exact ⟨true, rfl, fun h => Bool.noConfusion h, HE0.out.ext HE.out⟩
      · have q1' : ¬ (20 : Int) < (c.fields.length : Int) := by omega
        by_cases q2 : 60 < c.funcs.length
        · have q2' : (60 : Int) < (c.funcs.length : Int) := by omega
          go_wp2_with fail
          go_ret
          exact ⟨true, by simp, fun h => Bool.noConfusion h, HE0.out.ext HE.out⟩
        · have q2' : ¬ (60 : Int) < (c.funcs.length : Int) := by omega
          go_wp2_with fail
          go_ret
          exact ⟨false, by simp, fun _ => ⟨by rw [HT3.out]; exact hn, by omega⟩, HE0.out.ext HE.out⟩

end Go.Proofs.YtlbnilhbfiidmaaDoor
