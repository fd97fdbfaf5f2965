/- The steps of a script, by contract. -/
import Derived.Test.YtnlminaanccejaaP4
namespace Go.Proofs.Ytnlminaanccejaa
open Go.RowKit Go.Hw
set_option linter.unusedVariables false
set_option linter.unusedSimpArgs false

/-- what a method that may write leaves -/
structure Wrote (base b : Nat) (v : Value) (M' : LM) (w w' : World) (v' : Value) : Prop where
  rep : LRep base w' b v' M'
  upd : Upd (own b v) w w'
  own : ∀ k, own b v' k → own b v k ∨ w.heap.size ≤ k
theorem Wrote.same {base b : Nat} {v : Value} {M : LM} {w : World} (h : LRep base w b v M) : Wrote base b v M w w v := ⟨h, Upd.refl _ _, fun _ h => .inl h⟩

theorem ins_step (base b : Nat) (v : Value) (M : LM) (ord : List Nat) (n : Nat) (x : Int) (w : World) (h : LRep base w b v M) (hg : Good M ord n) (hb : base ≤ w.heap.size) :
    Calls Try.prog 16 #[.pointer (some ⟨b, 0, none⟩), .int .i64 x] w fun e w' => e = .returned (two (insRes ord n x)) ∧ ∃ v', Wrote base b v (insM M ord x) w w' v' := by
  have hw := hg.inv.wf
  have hh := hg.inv.has x
  have hlen := hg.len
  unfold insRes insM
  cases hk : insK ord x with
  | none =>
    unfold insK at hk
    split at hk
    · simp at hk
    · rename_i hx
      split at hk
      · simp at hk
      · rename_i hp
        exact (insert_no base b v M x w h hw (by rw [hh]; simpa using hp) hx).mono fun e w' ⟨a, c⟩ => ⟨a, v, by subst c; exact Wrote.same h⟩
  | some K =>
    have hA := insK_at hk
    dsimp only
    by_cases hf : 2000 ≤ n
    · rw [if_pos hf, if_pos (by omega)]
      by_cases hx : x = -1
      · exact (insert_full_o base b v M x w h hw hx (by omega)).mono fun e w' ⟨a, c⟩ => ⟨a, v, by subst c; exact Wrote.same h⟩
      · have hx2 : M.has x = true := by
          rw [hh]; unfold insK at hk; rw [if_neg hx] at hk; split at hk
          · simpa using ‹_›
          · simp at hk
        exact (insert_full_h base b v M x w h hw hx2 (by omega)).mono fun e w' ⟨a, c⟩ => ⟨a, v, by subst c; exact Wrote.same h⟩
    · rw [if_neg hf, if_neg (by omega)]
      have conv : ∀ (M' : LM) (e : Ending) (w' : World), ipost base b v M' (M.l.length, 0) w e w' → e = .returned (two (n, 0)) ∧ ∃ v', Wrote base b v M' w w' v' := by
        intro M' e w' ⟨v', h1, h2, h3, h4⟩
        exact ⟨by rw [h1, hlen], v', h2, h3, h4⟩
      have hx2 : x ≠ -1 → M.has x = true := by
        intro hx
        rw [hh]; unfold insK at hk; rw [if_neg hx] at hk; split at hk
        · simpa using ‹_›
        · simp at hk
      unfold LM.prep
      by_cases hgp : M.gapHigh x - M.gapLow x < 2
      · rw [if_pos hgp]
        have hsp := hg.inv.spread hg.mv
        have hs := hg.inv.spreadSpec.1
        have hsum := (hg.inv.spreadGap hg.mv hA).2
        have hol := hg.inv.ordLen
        by_cases hx : x = -1
        · exact (insert_os base b v M x ord w h hw hx (by omega) hg.inv.chain hg.inv.n (by omega) hgp hsp.wf hs.len hs.n hsum hb).mono (conv _)
        · exact (insert_hs base b v M x ord w h hw (hx2 hx) (by omega) hg.inv.chain hg.inv.n (by omega) hgp hsp.wf hs.len hs.n hsum hb).mono (conv _)
      · rw [if_neg hgp]
        by_cases hx : x = -1
        · exact (insert_ow base b v M x ord w h hw hx (by omega) (by omega) hb).mono (conv _)
        · exact (insert_hw base b v M x ord w h hw (hx2 hx) (by omega) (by omega) hb).mono (conv _)

theorem del_step (base b : Nat) (v : Value) (M : LM) (ord : List Nat) (n : Nat) (x : Int) (w : World) (h : LRep base w b v M) (hg : Good M ord n) :
    Calls Try.prog 20 #[.pointer (some ⟨b, 0, none⟩), .int .i64 x] w fun e w' => e = .returned (.int .i64 (delRes ord x)) ∧ ∃ v', Wrote base b v (delM M ord x) w w' v' := by
  have hw := hg.inv.wf
  have hh := hg.inv.has x
  unfold delRes delM
  by_cases hp : 0 ≤ pos ord x
  · rw [if_pos hp, if_pos hp]
    exact (delete_yes base b v M x w h hw (by rw [hh]; simpa using hp)).mono fun e w' ⟨a, c1, c2⟩ => ⟨a, v, c1, c2, fun _ h => .inl h⟩
  · rw [if_neg hp, if_neg hp]
    exact (delete_no base b v M x w h hw (by rw [hh]; simpa using hp)).mono fun e w' ⟨a, c⟩ => ⟨a, v, by subst c; exact Wrote.same h⟩

/-- the reference's insertion -/
theorem rins_step (S : Nat → Prop) (sl : Value) (ord : List Nat) (n : Nat) (x : Int) (w : World) (h : LsR S w sl ord) (hS : ∀ k, S k → k < w.heap.size) (hl : ord.length ≤ 4000) :
    Calls Try.prog 27 #[.agg #[sl, .int .i64 n], .int .i64 x] w fun e w' => ∃ sl', e = .returned (.tuple #[.agg #[sl', .int .i64 (insN ord n x)], .int .i64 (insRes ord n x).1, .int .i64 (insRes ord n x).2]) ∧
      LsR (fun k => S k ∨ (w.heap.size ≤ k ∧ k < w'.heap.size)) w' sl' (insOrd ord n x) ∧ Ext w w' := by
  have conv : ∀ (xs : List Nat) (made a c : Int) (e : Ending) (w' : World), ripost S xs made a c w e w' →
      ∃ sl', e = .returned (.tuple #[.agg #[sl', .int .i64 made], .int .i64 a, .int .i64 c]) ∧ LsR (fun k => S k ∨ (w.heap.size ≤ k ∧ k < w'.heap.size)) w' sl' xs ∧ Ext w w' := by
    intro xs made a c e w' ⟨v, h1, ⟨sl', h2, h3⟩, h4⟩
    exact ⟨sl', by rw [h1, h2], h3, h4⟩
  unfold insRes insOrd insN
  cases hk : insK ord x with
  | none =>
    unfold insK at hk
    split at hk
    · simp at hk
    · rename_i hx
      split at hk
      · simp at hk
      · rename_i hp
        have := pos_bd ord x
        exact (rins_no S sl ord n x w h hS hl hx (by omega)).mono (conv _ _ _ _)
  | some K =>
    dsimp only
    by_cases hx : x = -1
    · have hK : K = 0 := by unfold insK at hk; rw [if_pos hx] at hk; simpa using hk.symm
      by_cases hf : 2000 ≤ n
      · simp only [if_pos hf]
        exact (rins_of S sl ord n x w h hS hl hx (by omega)).mono (conv _ _ _ _)
      · simp only [if_neg hf]
        subst hK
        exact (rins_ok S sl ord n x w h hS hl hx n 0 rfl (by omega) rfl).mono fun e w' hq => by
          have := conv _ _ _ _ e w' hq
          exact this
    · unfold insK at hk
      rw [if_neg hx] at hk
      split at hk
      · rename_i hp
        simp at hk
        by_cases hf : 2000 ≤ n
        · simp only [if_pos hf]
          exact (rins_hf S sl ord n x w h hS hl hp (by omega)).mono (conv _ _ _ _)
        · simp only [if_neg hf]
          exact (rins_hk S sl ord n x w h hS hl hp n K rfl (by omega) (by omega)).mono fun e w' hq => by
            have := conv _ _ _ _ e w' hq
            exact this
      · simp at hk

/-- the reference's deletion -/
theorem rdel_step (S : Nat → Prop) (sl : Value) (ord : List Nat) (n : Nat) (x : Int) (w : World) (h : LsR S w sl ord) (hS : ∀ k, S k → k < w.heap.size) (hl : ord.length ≤ 4000) :
    Calls Try.prog 26 #[.agg #[sl, .int .i64 n], .int .i64 x] w fun e w' => ∃ sl', e = .returned (.tuple #[.agg #[sl', .int .i64 n], .int .i64 (delRes ord x)]) ∧
      LsR (fun k => S k ∨ (w.heap.size ≤ k ∧ k < w'.heap.size)) w' sl' (delOrd ord x) ∧ Ext w w' := by
  have conv : ∀ (xs : List Nat) (made c : Int) (e : Ending) (w' : World), rdpost S xs made c w e w' →
      ∃ sl', e = .returned (.tuple #[.agg #[sl', .int .i64 made], .int .i64 c]) ∧ LsR (fun k => S k ∨ (w.heap.size ≤ k ∧ k < w'.heap.size)) w' sl' xs ∧ Ext w w' := by
    intro xs made c e w' ⟨v, h1, ⟨sl', h2, h3⟩, h4⟩
    exact ⟨sl', by rw [h1, h2], h3, h4⟩
  unfold delRes delOrd
  have hb := pos_bd ord x
  by_cases hp : 0 ≤ pos ord x
  · rw [if_pos hp, if_pos hp]
    exact (rdel_ok S sl ord n x w h hS hl (pos ord x).toNat (by omega)).mono (conv _ _ _)
  · rw [if_neg hp, if_neg hp]
    exact (rdel_no S sl ord n x w h hS hl (by omega)).mono (conv _ _ _)

theorem new_rep (base : Nat) (w : World) (hb : base ≤ w.heap.size) :
    LRep base (w.alloc (.cells #[.slice none 0 0, .int .i64 (-1), .int .i64 (-1), .int .i64 0, .int .i64 0] 59)) w.heap.size (.slice none 0 0) ⟨[], -1, -1, 0, 0⟩ :=
  ⟨alloc0 _ _, hb, World.ownsRow_nil _ _ _ _, by simp [Value.ownBlock]⟩

end Go.Proofs.Ytnlminaanccejaa
