/- The texts OT CF CFA OG Signatures, one behind the other. -/
import Derived.Test.YtjjaknmnhhfjeaaGreatDoorKAB
import Derived.Test.YtjjaknmnhhfjeaaGreatDoorRows
import Derived.Lib.SmallJoins
import Derived.OpenShut
import Derived.Deep.SlicePairs
import Derived.ProofKit
import Derived.SizedLaws
import Derived.Test.YtjjaknmnhhfjeaaGreatDoorKAK
import Derived.Test.YtjjaknmnhhfjeaaGreatDoorTie
import Derived.Test.YtjjaknmnhhfjeaaGreatDoorCards
import Derived.WalkKit
import Derived.Handy
import Derived.Lay
import Derived.MakeChecks
import Derived.LaidSub
import Derived.SevenTiedAt
import Derived.Test.YtjjaknmnhhfjeaaGreatDoorKAW
import Derived.Test.YtjjaknmnhhfjeaaGreatDoorKAX
import Derived.Lib.AtoiErrMem
import Derived.Stop.LaidErr
import Derived.Shelf.Vars
import Derived.ChangeMaps5
import Derived.Test.YtjjaknmnhhfjeaaGreatDoorKAF
import Derived.Test.YtjjaknmnhhfjeaaGreatDoorKAA
import Derived.Test.YtjjaknmnhhfjeaaGreatDoorKBJ
/- Parameters as they come in. -/
namespace Go.Proofs.YtjjaknmnhhfjeaaGreatDoor
open Go.RowKit Go.Hw Go
set_option linter.unusedVariables false
set_option linter.unusedSimpArgs false

open Go.ChangeShapes Go.WideShapes Go.Deep Go.Joins Go.ChangeAt Tm
set_option maxRecDepth 100000
theorem Tryz.own : ownKnob Tryz.prog.godebug = none := by kernel_rfl
theorem Tryz.laidOut : laidOutB Tryz.prog = true := by kernel_rfl
theorem cells9 : Tryz.prog.cellsOf 9 = 1 := by kernel_rfl
theorem add_plainO (b o k : Nat) : (⟨b, o, none⟩ : Addr).add k = ⟨b, o + k, none⟩ := by
  unfold Addr.add
  split
  · rename_i h; subst h; rfl
  · rfl
theorem flat_one {α : Type} (f : α → Value) : ∀ l : List α, l.flatMap (fun s => [f s]) = l.map f
  | [] => rfl
  | a :: l => by rw [List.flatMap_cons, flat_one f l]; rfl
theorem flat_lenO {α : Type} (cells : α → List Value) {k : Nat} (hc : ∀ a, (cells a).length = k) : ∀ l : List α, (l.flatMap cells).length = l.length * k
  | [] => by simp
  | a :: l => by rw [List.flatMap_cons, List.length_append, hc, flat_lenO cells hc l, List.length_cons, Nat.add_mul, Nat.one_mul, Nat.add_comm]
theorem flat_get {α : Type} [Inhabited α] (cells : α → List Value) {k : Nat} (hc : ∀ a, (cells a).length = k) : ∀ (l : List α) (q r : Nat), q < l.length → r < k → (l.flatMap cells)[q * k + r]? = (cells (l.getD q default))[r]?
  | [], q, r, h, _ => by simp at h
  | a :: l, 0, r, _, hr => by
    rw [List.flatMap_cons, Nat.zero_mul, Nat.zero_add, List.getElem?_append_left (by rw [hc]; exact hr)]
    rfl
  | a :: l, q + 1, r, h, hr => by
    rw [List.flatMap_cons, List.getElem?_append_right (by rw [hc, Nat.add_mul]; omega), hc, show (q + 1) * k + r - k = q * k + r by rw [Nat.add_mul]; omega]
    rw [flat_get cells hc l q r (by simpa using h) hr]
    rfl
section
variable {H : Type} {enc : TypeId × Value → H} {W : World}
noncomputable abbrev trd (enc : TypeId × Value → H) (W : World) (held : Bool) (fuel : Nat) (t : TypeId) (cs : List Value) := DataW.trod enc Tryz.prog W 0 (fun _ => true) held fuel t cs
theorem open_sl {t e : TypeId} {k : Nat} {α : Type} [Inhabited α] (cells : α → List Value) (R : α → Prop) (ht : Tryz.prog.underlying t = some (.slice e)) (hk : Tryz.prog.cellsOf e = k) (hc : ∀ a, (cells a).length = k) (hk0 : 0 < k)
    {held : Bool} {fuel : Nat} {v : Value} {y : DataW H × List MemPlace} (hel : ∀ n cs y, n < fuel → trd enc W held n e cs = some y → ∃ a, cs = cells a ∧ R a) (h : trd enc W held fuel t [v] = some y) :
    ∃ l : List α, SlR (fun b => b < W.heap.size) W k v l.length (l.flatMap cells) ∧ l.length ≤ maxLen ∧ ∀ a ∈ l, R a := by
  rcases DataW.trod_slice ht h with ⟨hcs, _⟩ | ⟨a, len, cap, elems, rest, n, hfu, hcs, _, _, hl, hm, hlen, hall, _⟩
  · simp only [List.cons.injEq, and_true] at hcs
    subst hcs
    exact ⟨[], SlR.nil _ _ _, by simp, by simp⟩
  · simp only [List.cons.injEq, and_true] at hcs
    subst hcs
    rw [hk] at hall
    have hA : ∀ i, ∃ f : α, i < len → (∃ cs', W.cells? 0 (a.add (i * k)) k = some cs' ∧ cs' = cells f) ∧ R f := fun i => by
      by_cases hi : i < len
      · have h1 := hall i hi
        rw [List.getElem?_eq_getElem (by omega)] at h1
        obtain ⟨cs', h2, h3⟩ := Option.bind_eq_some_iff.1 h1
        obtain ⟨f, hf, hr⟩ := hel n cs' _ (by omega) h3
        exact ⟨f, fun _ => ⟨⟨cs', h2, hf⟩, hr⟩⟩
      · exact ⟨default, fun h => absurd h hi⟩
    obtain ⟨A, hA3⟩ := Classical.axiomOfChoice hA
    have hlenA : ((List.range len).map A).length = len := by simp
    have hx : ∀ i r, i < len → r < k → W.cell? ((a.add (i * k)).add r) = (cells (A i))[r]? := fun i r hi hr => by
      obtain ⟨⟨cs', h1, h2⟩, _⟩ := hA3 i hi
      rw [← h2]
      exact (World.cells?_some h1).2.2 r hr
    have hsm : 0 < len → ∃ u, W.cell? ((a.add (0 * k)).add 0) = some u := fun h0 => by
      rw [hx 0 0 h0 hk0]
      exact ⟨_, List.getElem?_eq_getElem (by rw [hc]; exact hk0)⟩
    have hsp : 0 < len → a.spot = none := fun h0 => by
      obtain ⟨u, hu⟩ := hsm h0
      have := World.cell?_spot hu
      simpa [Addr.add] using this
    have hbk : 0 < len → a.block < W.heap.size := fun h0 => by
      obtain ⟨u, hu⟩ := hsm h0
      have := World.block_lt_of_cell? W _ hu
      simpa [Addr.add] using this
    refine ⟨(List.range len).map A, ?_, by rw [hlenA]; omega, fun p hp => ?_⟩
    · rw [hlenA]
      refine ⟨by rw [flat_lenO cells hc, hlenA], .inr ⟨a, cap, rfl, hl, fun h0 => ⟨hsp h0, hbk h0⟩, fun j hj => ?_⟩⟩
      have hjq : j / k < len := Nat.div_lt_of_lt_mul (by rw [Nat.mul_comm]; exact hj)
      have hjr : j % k < k := Nat.mod_lt _ hk0
      have hje : j = j / k * k + j % k := by rw [Nat.mul_comm]; exact (Nat.div_add_mod j k).symm
      generalize j / k = q at hjq hje
      generalize j % k = r at hjr hje
      subst hje
      rw [flat_get cells hc _ q r (by rw [hlenA]; exact hjq) hjr]
      have e : ((List.range len).map A).getD q default = A q := by simp [hjq]
      rw [e, ← hx q r hjq hjr]
      have h4 := hsp (by omega)
      obtain ⟨ab, ao, asp⟩ := a
      simp only at h4
      subst h4
      rw [add_plainO, add_plainO, Nat.add_assoc]
    · simp only [List.mem_map, List.mem_range] at hp
      obtain ⟨i, hi, rfl⟩ := hp
      exact (hA3 i hi).2
end

end Go.Proofs.YtjjaknmnhhfjeaaGreatDoor

/- The frame of a card: what the row's variables hold. -/
namespace Go.Proofs.YtjjaknmnhhfjeaaGreatDoor
open Go.ChangeShapes Go.WideShapes Go.ChangeAt Go.RowKit Go.Hw
set_option linter.unusedVariables false
set_option linter.unusedSimpArgs false
def tabsL : List (String × DataW Unit) := [("math/bits.deBruijn32tab", Rows.laid_math_bits_deBruijn32tab), ("math/bits.deBruijn64tab", Rows.laid_math_bits_deBruijn64tab), ("internal/strconv.uint64pow10", Rows.laid_internal_strconv_uint64pow10), ("strconv.ErrRange", Rows.laid_strconv_ErrRange), ("strconv.ErrSyntax", Rows.laid_strconv_ErrSyntax), ("unicode.White_Space", Rows.laid_unicode_White_Space), ("strings.asciiSpace", Rows.laid_strings_asciiSpace)]
open Go.Deep Go.Joins Tm
set_option maxRecDepth 100000 in
theorem asc_data : (Rows.laid_strings_asciiSpace : DataW Unit) = Lib.tabData .u8 Lib.asciiSpaceTab := by kernel_rfl
set_option maxRecDepth 100000 in
theorem tabsL_asc : (tabsL.filter fun x => x.1 == "strings.asciiSpace") = [("strings.asciiSpace", Lib.tabData .u8 Lib.asciiSpaceTab)] := by
  rw [← asc_data]; kernel_rfl
set_option maxRecDepth 100000 in
theorem asc_of_laid {W : World} (h : laidMetH Tryz.prog tabsL W) : AscT W := by
  rw [MakeChecks.laidMetH_plain _ _ _ (by kernel_rfl)] at h
  have h2 := laidMet.filter (fun x => x.1 == "strings.asciiSpace") h
  rw [tabsL_asc] at h2
  exact Lib.tabIs_of_head (g := (Tryz.prog.globalNamed "strings.asciiSpace").getD 0) (t := 205) (e := 5) (n := 256) (by kernel_rfl) (by kernel_rfl) (by kernel_rfl) (by kernel_rfl) (by kernel_rfl) (by kernel_rfl) h2
end Go.Proofs.YtjjaknmnhhfjeaaGreatDoor

/- What the row's variables say of Atoi. -/
namespace Go.Proofs.YtjjaknmnhhfjeaaGreatDoor
open Go.ChangeShapes Go.WideShapes Go.ChangeAt Go.RowKit Go.Hw
set_option linter.unusedVariables false
set_option linter.unusedSimpArgs false
theorem var_ext {w w' : World} {n : String} {cs : Array Value} (h : w.var? Tryz.prog n = some cs) (hw : Ext w w') : w'.var? Tryz.prog n = some cs := by
  unfold World.var? at *
  cases hg : Tryz.prog.globalNamed n with
  | none => simp [hg] at h
  | some g =>
    simp only [hg, Option.bind_some] at h ⊢
    have hlt : g < w.heap.size := by
      rcases Nat.lt_or_ge g w.heap.size with h' | h'
      · exact h'
      · rw [Array.getElem?_eq_none h'] at h; simp at h
    rw [hw.block g hlt (fun x => x)]
    exact h
theorem atoiD_of {w : World} {t2 : TypeId} {p2 : Value} (h2 : w.var? Tryz.prog "strconv.ErrRange" = some #[.iface t2 p2]) : AtoiD w := by
  intro t W hW hne hd hs
  have hm : t.size ≤ 281474976710656 := by omega
  have hsat : Lib.atoiSat t.data.toList = 9223372036854775807 := by
    cases hl : t.data.toList with
    | nil => exact absurd hl hne
    | cons c r =>
      rw [hl, List.all_cons, Bool.and_eq_true] at hd
      have h1 := hd.1
      unfold digB digN at h1
      rw [Bool.and_eq_true, decide_eq_true_eq, decide_eq_true_eq] at h1
      exact Lib.atoiSat_other c r (by omega)
  rcases atoi_digs _ hne hd with h | ⟨h, _⟩
  · left
    refine ⟨_, h, ?_⟩
    refine (Tryz.strconv_Atoi_ok t (by omega) _ h W).mono ?_
    rintro e w' ⟨rfl, h⟩
    refine ⟨rfl, ?_⟩
    rcases h with rfl | ⟨t, rfl⟩
    · exact Upd.refl _ _
    · exact below_ext (Lib.bytesWorld_below _ _ _) (Nat.le_refl _)
  · right
    refine ⟨h, ?_⟩
    refine (Tryz.strconv_Atoi_range_var t hm h t2 p2 W (var_ext h2 hW)).mono ?_
    rintro e w' ⟨N, rfl, _, _, hb⟩
    rw [hsat]
    exact ⟨_, _, rfl, below_ext hb (Nat.le_refl _)⟩
theorem star99 : "*" ++ "errors.errorString" = "*errors.errorString" := by decide
theorem row99 (u : TypeId) (h : Tryz.prog.typeName? 3 u = some "*errors.errorString") : u = 239 :=
  typeName_ptr_named (nm := "errors.errorString") (by rw [star99]; kernel_rfl) (by kernel_rfl) (by decide) u (by rw [star99]; exact h)
theorem tabsL_range : (tabsL.filter fun x => x.1 == "strconv.ErrRange") = [("strconv.ErrRange", Rows.laid_strconv_ErrRange)] := by kernel_rfl
set_option maxRecDepth 100000 in
theorem atoi_of_laid {W : World} (h0 : laidMetH Tryz.prog tabsL W) : AtoiD W := by
  have h := h0
  rw [MakeChecks.laidMetH_plain _ _ _ (by kernel_rfl)] at h
  have h2 := laidMet.filter (fun x => x.1 == "strconv.ErrRange") h
  rw [tabsL_range] at h2
  obtain ⟨a0, s0, hv, _⟩ := laid_sentinel (g := 4) (ti := 122) (tp := 239) (te := 241) (ts := 9) h2 (by kernel_rfl) (by kernel_rfl) Tryz.underlying122 row99 Tryz.underlying239 Tryz.underlying241 rfl rfl Tryz.underlying9 (by kernel_rfl) (by kernel_rfl)
  exact atoiD_of hv
end Go.Proofs.YtjjaknmnhhfjeaaGreatDoor

/- Signatures as they come in. -/
namespace Go.Proofs.YtjjaknmnhhfjeaaGreatDoor
open Go.RowKit Go.Hw
set_option linter.unusedVariables false
set_option linter.unusedSimpArgs false

open Go.ChangeShapes Go.WideShapes Go.Deep Go.Joins Go.ChangeAt Tm
set_option maxRecDepth 100000
theorem cells102 : Tryz.prog.cellsOf 96 = 3 := by kernel_rfl
theorem cells22 : Tryz.prog.cellsOf 39 = 1 := by kernel_rfl
theorem cells58 : Tryz.prog.cellsOf 42 = 2 := by kernel_rfl
abbrev Du := Dc × Value
def duCells (p : Du) : List Value := [.string p.1.1, p.2, .string p.1.2.2]
def DuOk (W : World) (p : Du) : Prop := StrR (fun b => b < W.heap.size) W p.2 p.1.2.1
theorem du_cells : ∀ l : List Du, l.flatMap duCells = dCells (l.map (·.1)) (l.map (·.2))
  | [] => rfl
  | p :: l => by
    rw [List.flatMap_cons, du_cells l]
    rfl
theorem du_list {W : World} {l : List Du} {v : Value} (h : SlR (fun b => b < W.heap.size) W 3 v l.length (l.flatMap duCells)) (hR : ∀ p ∈ l, DuOk W p) : DcR (fun b => b < W.heap.size) W v (l.map (·.1)) := by
  rw [du_cells] at h
  refine ⟨l.map (·.2), by rw [List.length_map]; exact h, fun i hi => ?_⟩
  rw [List.length_map] at hi
  have h1 := hR _ (List.getElem_mem hi)
  unfold DuOk at h1
  have e1 : dg (l.map (·.1)) i = (l[i]).1 := by unfold dg; simp [hi]
  have e2 : ug (l.map (·.2)) i = (l[i]).2 := by unfold ug; simp [hi]
  rw [e1, e2]
  exact h1
section
variable {H : Type} {enc : TypeId × Value → H} {W : World}
theorem strs_of (fuel : Nat) {held : Bool} (v : Value) (y : DataW H × List MemPlace) (h : trd enc W held fuel 39 [v] = some y) : ∃ l : List By, StrR (fun b => b < W.heap.size) W v l := by
  haveI : Inhabited By := ⟨nul⟩
  obtain ⟨l, hl, hm, hR⟩ := open_sl (α := By) (fun s => [.string s]) (fun _ => True) Tryz.underlying39 cells9 (fun _ => rfl) (by decide) (fun n' cs' y' hn h' => by
    obtain ⟨s0, e0, _, _⟩ := DataW.trod_string Tryz.underlying9 h'
    exact ⟨s0, e0, trivial⟩) h
  refine ⟨l, ?_⟩
  have e : l.flatMap (fun s => [Value.string s]) = l.map Value.string := flat_one _ l
  unfold StrR
  rw [← e]
  exact hl
theorem decl_of (fuel : Nat) {held : Bool} (cs : List Value) (y : DataW H × List MemPlace) (h : trd enc W held fuel 96 cs = some y) : ∃ p : Du, cs = duCells p ∧ DuOk W p := by
  obtain ⟨xs, n, hfu, hx, hcl, hxl, hf⟩ := DataW.trod_struct Tryz.underlying96 h
  rw [cells102] at hcl
  match cs, hcl, xs, hxl with
  | [v0, v1, v2], _, [y0, y1, y2], _ =>
    have g0 := hf 0 _ rfl
    have g1 := hf 1 _ rfl
    have g2 := hf 2 _ rfl
    simp [cells9, cells22] at g0 g1 g2
    obtain ⟨s0, e0, _, _⟩ := DataW.trod_string Tryz.underlying9 g0
    obtain ⟨s2, e2, _, _⟩ := DataW.trod_string Tryz.underlying9 g2
    simp only [List.cons.injEq, and_true] at e0 e2
    subst e0; subst e2
    obtain ⟨l, hl⟩ := strs_of _ _ _ g1
    exact ⟨((s0, l, s2), v1), rfl, hl⟩
theorem open_sg {r : Reach} {b0 : Nat} {v : Value} {d : DataW H} {ps : List MemPlace} (hv : Value.okWide Tryz.prog W r b0 42 v) (h : DataW.Trod enc Tryz.prog W 0 (fun _ => true) true 42 v d ps) : ∃ g : Sg, SgR (fun b => b < W.heap.size) W g v := by
  obtain ⟨v0, v1, y0, y1, n, rfl, _, _, h0, h1⟩ := open_agg2 Tryz.underlying42 (by kernel_rfl) cells58 hv h
  obtain ⟨l, hl⟩ := strs_of _ _ _ h0
  haveI : Inhabited Du := ⟨((nul, [], nul), nilS)⟩
  obtain ⟨ds, hd, _, hR⟩ := open_sl (α := Du) duCells (DuOk W) Tryz.underlying40 cells102 (fun _ => rfl) (by decide) (fun n' cs' y' hn h' => decl_of n' cs' y' h') h1
  have hD := du_list hd hR
  obtain ⟨sa, sc, e0⟩ := SlR.shape hl
  obtain ⟨oa, oc, e1⟩ := hD.shape
  subst e0; subst e1
  exact ⟨(l, ds.map (·.1)), sa, sc, oa, oc, rfl, hl, hD⟩
end

end Go.Proofs.YtjjaknmnhhfjeaaGreatDoor

/- The law TermSignatures: the row, and the tied card. For every input the call returns true, and each argument reads as it did. -/
namespace Go.Proofs.YtjjaknmnhhfjeaaGreatDoor
open Go.ChangeShapes Go.WideShapes Go.ChangeAt Go.RowKit Go.Hw
set_option linter.unusedVariables false
set_option linter.unusedSimpArgs false
set_option maxRecDepth 100000 in
theorem termSignatures_lifted (os : Os) (started : os.Started) (H : Type) (enc : TypeId × Value → H) :
    ReturnsInHanded {} Tryz.checked os 4 .any (fun w args => (Rows.termSignaturesSpec.pre enc Tryz.prog Tryz.f4 [] false w args ∧ laidMetH Tryz.prog tabsL w) ∧ sizedMet enc Tryz.prog Tryz.f4 (OpenSpec.ofChange Rows.termSignaturesSpec) false w args)
      (Rows.termSignaturesSpec.post enc Tryz.prog Tryz.f4 false true false false) := by
  refine returnsInHanded_of_change_and (C := Tryz.checked) (X := fun w _ => laidMetH Tryz.prog tabsL w) (fun _ _ _ hh h => h.of_heap hh) Tryz.own started (by kernel_rfl) Tryz.func4
    (ChangeSpec.witness_shaped (enc := enc) (C := Tryz.checked) (os := os) (X := fun w _ => laidMetH Tryz.prog tabsL w) false (World.laidAll Tryz.prog os tabsL) #[.agg #[.slice none 0 0, .slice none 0 0], .string ⟨#[]⟩] 8 (World.laidAll_os _ _ _)
      (World.shaped_of_ZipB (by kernel_rfl) (by kernel_rfl)) (by kernel_rfl) (by kernel_rfl) (by kernel_rfl)
      (by rw [MakeChecks.laidMetH_plain _ _ _ (by kernel_rfl)]; exact laidMet_laidAll _ (by kernel_rfl) (by kernel_rfl))) ?_
  intro W base args ds gs before hval0 hW hcnd hLgt hL _
  have hval : ∀ (j : Nat) t v, Tryz.f4.params[j]? = some t → args[j]? = some v → Value.okWide Tryz.prog W .any base t v := hval0
  have hW' := hW
  obtain ⟨p, q, hA0, hV, rfl, hfz, hnd⟩ := hW
  have hA : DataW.TrodAll enc Tryz.prog W 0 (fun _ => true) true Tryz.f4.params.toList args.toList ds p := hA0
  rw [Tryz.params4] at hA hval
  obtain ⟨v0, vs0, d0, ds0, p0, q0, hargs, rfl, rfl, h0, r0⟩ := trodAll_cons hA
  obtain ⟨v1, vs1, d1, ds1, p1, q1, rfl, rfl, rfl, h1, r1⟩ := trodAll_cons r0
  obtain ⟨rfl, rfl, rfl⟩ := trodAll_nil r1
  obtain rfl : args = #[v0, v1] := by cases args; simp_all
  obtain ⟨rfl, rfl⟩ := trodVars_none hV
  simp only [List.append_nil] at hW'
  have hlt : ∀ x ∈ p0 ++ p1, x.block < W.heap.size := fun x hx => by simpa using hW'.lt x hx
  have k0 : ∀ (W' : World), Below W.heap.size W W' → DataW.Trod enc Tryz.prog W' 0 (fun b => decide (b < W.heap.size)) true 42 v0 d0 p0 :=
    fun W' hn => Below.trod Tryz.laidOut (by kernel_rfl) (of_decide_eq_true (by kernel_rfl)) h0 hn (fun x hx => hlt x (by simp [hx]))
  have k1 : ∀ (W' : World), Below W.heap.size W W' → DataW.Trod enc Tryz.prog W' 0 (fun b => decide (b < W.heap.size)) true 9 v1 d1 p1 :=
    fun W' hn => Below.trod Tryz.laidOut (by kernel_rfl) (of_decide_eq_true (by kernel_rfl)) h1 hn (fun x hx => hlt x (by simp [hx]))
  obtain ⟨g0, hg0⟩ := open_sg (hval 0 42 v0 rfl rfl) h0
  obtain ⟨s1, e1⟩ := okWide_string Tryz.underlying9 (hval 1 9 v1 rfl rfl)
  subst e1
  have HA := asc_of_laid hL
  have HAT := atoi_of_laid hL
  clear hA0 hval0
  refine (sigs_law g0 s1 v0 W hg0 HA HAT).mono fun e W' ⟨he, hx⟩ => ?_
  subst he
  have hn := Ext.below hx
  refine ⟨_, rfl, _, _, _, [], p0 ++ (p1 ++ []), [], hW', ?_, ?_, rfl, hn.frame _, fun h => by cases h⟩
  · exact trodAll_cons_mk (shut_bool Tryz.underlying4 true) trodAll_mk0
  · exact trodAll_cons_mk (k0 _ hn) (trodAll_cons_mk (k1 _ hn) trodAll_mk0)

theorem termSignatures_row_holds : Rows.TermSignaturesSaid :=
  OpenClaim.holds_of_wide 4 Tryz.f4 rfl rfl rfl rfl rfl rfl rfl ⟨rfl, rfl, rfl, rfl, rfl⟩ rfl rfl rfl rfl rfl (by kernel_rfl) Tryz.func4 termSignatures_facts
    (of_decide_eq_true (by kernel_rfl)) (by unfold Func.isWrapper; first | (rw [if_pos (by decide +kernel)]; kernel_rfl) | (rw [if_neg (by decide +kernel)]; exact ⟨rfl, rfl⟩))
    (fun os started H enc _ => termSignatures_lifted os started H enc)
theorem termSignatures_holds : Rows.TermSignaturesCardSaid :=
  Claim7.holds_tied_plain_at .later [] [.data, .data, .data, .sentinel, .sentinel, .listed, .data] true (true, "d02b9a92ecbc07acf11346cb05599a43fc3a6fef05d6b17363aab3a4a0b79fc1") true termSignatures_row_holds (fun _ h => by cases h) (by kernel_rfl) (fun _ h => by cases h) termSignatures_row_tie rfl ⟨rfl, rfl⟩ (by kernel_rfl) rfl
    (fun f fn hf hfn => by
      obtain rfl : f = 4 := Option.some.inj ((show Tryz.prog.funcNamed "heartwood/heartwoodlaw02.TermSignatures" = some 4 by kernel_rfl).symm.trans hf) |>.symm
      obtain rfl : fn = Tryz.f4 := (Option.some.inj (Tryz.func4.symm.trans hfn)).symm
      exact ⟨by kernel_rfl, fun j t ht => by
        rw [Tryz.params4] at ht
        have hm : t ∈ [42, 9] := by simpa using Array.mem_of_getElem? ht
        have hall : ([42, 9].all fun u => !Tryz.prog.wantsStandIn u) = true := by kernel_rfl
        exact (show Tryz.prog.wantsStandIn t = false by simpa using List.all_eq_true.1 hall t hm)⟩)
    (by kernel_rfl)
#print axioms termSignatures_holds
end Go.Proofs.YtjjaknmnhhfjeaaGreatDoor
