/- The texts ShelfA Y34 Y35, one behind the other. -/
import Derived.Test.YtjjaknmnhhfjeaaGreatDoorKAG
import Derived.Shelf.LaysC
import Derived.Shelf.Strconv.AtoiAll
import Derived.Shelf.Strconv.ErrVarAll
import Derived.Test.YtjjaknmnhhfjeaaGreatDoorKAW
/- Further contracts of the library, laid: what Atoi does. -/
namespace Go.Proofs
open Go.Shelf
def Tryz.laysC172_ren : Go.Shelf.Ren := ⟨fun | 172 => 150 | 244 => 162 | 245 => 163 | 247 => 169 | 279 => 170 | 280 => 171 | 281 => 172 | 282 => 173 | 287 => 175 | 316 => 176 | 171 => 178 | 205 => 177 | 321 => 181 | 322 => 182 | 243 => 183 | 246 => 184 | 283 => 185 | 284 => 186 | 285 => 187 | 286 => 188 | 129 => 148 | 317 => 189 | 318 => 190 | 319 => 191 | 320 => 192 | 337 => 193 | 338 => 194 | n => n, fun | 9 => 9 | 3 => 3 | 75 => 122 | 76 => 123 | 4 => 4 | 5 => 5 | 167 => 210 | 37 => 118 | 0 => 0 | 85 => 211 | 2 => 2 | 168 => 213 | 53 => 195 | 175 => 221 | 46 => 172 | 210 => 224 | 127 => 161 | 145 => 241 | 143 => 239 | 21 => 21 | 171 => 245 | 173 => 247 | 212 => 251 | 51 => 193 | 20 => 20 | 213 => 252 | 232 => 253 | 233 => 254 | 80 => 104 | n => n, fun | 15 => 3 | 16 => 4 | 17 => 5 | 18 => 6 | 19 => 7 | n => n⟩
theorem Tryz.laysC172 : Go.Proofs.LaysC.n172 Tryz.prog Tryz.laysC172_ren := {
  mixed := by kernel_rfl
  f129 := Tryz.func148.trans (congrArg some (by kernel_rfl))
  f171 := Tryz.func178.trans (congrArg some (by kernel_rfl))
  f172 := Tryz.func150.trans (congrArg some (by kernel_rfl))
  f205 := Tryz.func177.trans (congrArg some (by kernel_rfl))
  f243 := Tryz.func183.trans (congrArg some (by kernel_rfl))
  f244 := Tryz.func162.trans (congrArg some (by kernel_rfl))
  f245 := Tryz.func163.trans (congrArg some (by kernel_rfl))
  f246 := Tryz.func184.trans (congrArg some (by kernel_rfl))
  f247 := Tryz.func169.trans (congrArg some (by kernel_rfl))
  f279 := Tryz.func170.trans (congrArg some (by kernel_rfl))
  f280 := Tryz.func171.trans (congrArg some (by kernel_rfl))
  f281 := Tryz.func172.trans (congrArg some (by kernel_rfl))
  f282 := Tryz.func173.trans (congrArg some (by kernel_rfl))
  f283 := Tryz.func185.trans (congrArg some (by kernel_rfl))
  f284 := Tryz.func186.trans (congrArg some (by kernel_rfl))
  f285 := Tryz.func187.trans (congrArg some (by kernel_rfl))
  f286 := Tryz.func188.trans (congrArg some (by kernel_rfl))
  f287 := Tryz.func175.trans (congrArg some (by kernel_rfl))
  f316 := Tryz.func176.trans (congrArg some (by kernel_rfl))
  f317 := Tryz.func189.trans (congrArg some (by kernel_rfl))
  f318 := Tryz.func190.trans (congrArg some (by kernel_rfl))
  f319 := Tryz.func191.trans (congrArg some (by kernel_rfl))
  f320 := Tryz.func192.trans (congrArg some (by kernel_rfl))
  f321 := Tryz.func181.trans (congrArg some (by kernel_rfl))
  f322 := Tryz.func182.trans (congrArg some (by kernel_rfl))
  f337 := Tryz.func193.trans (congrArg some (by kernel_rfl))
  f338 := Tryz.func194.trans (congrArg some (by kernel_rfl))
  t0 := Tryz.underlying0
  a0 := Tryz.isAgg0
  z0 := Tryz.sizeOf0
  v0 := Tryz.zeroValue0
  t2 := Tryz.underlying2
  a2 := Tryz.isAgg2
  z2 := Tryz.sizeOf2
  v2 := Tryz.zeroValue2
  t3 := Tryz.underlying3
  a3 := Tryz.isAgg3
  z3 := Tryz.sizeOf3
  v3 := Tryz.zeroValue3
  t4 := Tryz.underlying4
  a4 := Tryz.isAgg4
  z4 := Tryz.sizeOf4
  v4 := Tryz.zeroValue4
  t5 := Tryz.underlying5
  a5 := Tryz.isAgg5
  z5 := Tryz.sizeOf5
  v5 := Tryz.zeroValue5
  t9 := Tryz.underlying9
  a9 := Tryz.isAgg9
  z9 := Tryz.sizeOf9
  v9 := Tryz.zeroValue9
  t20 := Tryz.underlying20
  a20 := Tryz.isAgg20
  z20 := Tryz.sizeOf20
  v20 := Tryz.zeroValue20
  t21 := Tryz.underlying21
  a21 := Tryz.isAgg21
  z21 := Tryz.sizeOf21
  v21 := Tryz.zeroValue21
  t37 := Tryz.underlying118
  a37 := Tryz.isAgg118
  z37 := Tryz.sizeOf118
  v37 := Tryz.zeroValue118
  t46 := Tryz.underlying172
  a46 := Tryz.isAgg172
  z46 := Tryz.sizeOf172
  v46 := Tryz.zeroValue172
  t51 := Tryz.underlying193
  a51 := Tryz.isAgg193
  z51 := Tryz.sizeOf193
  v51 := Tryz.zeroValue193
  t53 := Tryz.underlying195
  a53 := Tryz.isAgg195
  z53 := Tryz.sizeOf195
  v53 := Tryz.zeroValue195
  t75 := Tryz.underlying122
  a75 := Tryz.isAgg122
  z75 := Tryz.sizeOf122
  v75 := Tryz.zeroValue122
  t76 := Tryz.underlying123
  a76 := Tryz.isAgg123
  z76 := Tryz.sizeOf123
  v76 := Tryz.zeroValue123
  t85 := Tryz.underlying211
  a85 := Tryz.isAgg211
  z85 := Tryz.sizeOf211
  v85 := Tryz.zeroValue211
  t127 := Tryz.underlying161
  a127 := Tryz.isAgg161
  z127 := Tryz.sizeOf161
  v127 := Tryz.zeroValue161
  t143 := Tryz.underlying239
  a143 := Tryz.isAgg239
  z143 := Tryz.sizeOf239
  v143 := Tryz.zeroValue239
  t145 := Tryz.underlying241
  a145 := Tryz.isAgg241
  z145 := Tryz.sizeOf241
  v145 := Tryz.zeroValue241
  t167 := Tryz.underlying210
  a167 := Tryz.isAgg210
  z167 := Tryz.sizeOf210
  v167 := Tryz.zeroValue210
  t168 := Tryz.underlying213
  a168 := Tryz.isAgg213
  z168 := Tryz.sizeOf213
  v168 := Tryz.zeroValue213
  t171 := Tryz.underlying245
  a171 := Tryz.isAgg245
  z171 := Tryz.sizeOf245
  v171 := Tryz.zeroValue245
  t173 := Tryz.underlying247
  a173 := Tryz.isAgg247
  z173 := Tryz.sizeOf247
  v173 := Tryz.zeroValue247
  t175 := Tryz.underlying221
  a175 := Tryz.isAgg221
  z175 := Tryz.sizeOf221
  v175 := Tryz.zeroValue221
  t210 := Tryz.underlying224
  a210 := Tryz.isAgg224
  z210 := Tryz.sizeOf224
  v210 := Tryz.zeroValue224
  t212 := Tryz.underlying251
  a212 := Tryz.isAgg251
  z212 := Tryz.sizeOf251
  v212 := Tryz.zeroValue251
  t213 := Tryz.underlying252
  a213 := Tryz.isAgg252
  z213 := Tryz.sizeOf252
  t232 := Tryz.underlying253
  a232 := Tryz.isAgg253
  z232 := Tryz.sizeOf253
  v232 := Tryz.zeroValue253
  t233 := Tryz.underlying254
  a233 := Tryz.isAgg254
  z233 := Tryz.sizeOf254
  v233 := Tryz.zeroValue254
  g15 := by kernel_rfl
  g16 := by kernel_rfl
  g17 := by kernel_rfl
  g18 := by kernel_rfl
  g19 := by kernel_rfl
  t80 := Tryz.underlying104
  a80 := Tryz.isAgg104
  z80 := Tryz.sizeOf104
  v80 := Tryz.zeroValue104
  i0 := by kernel_rfl
  i2 := by kernel_rfl
  i3 := by kernel_rfl
  i4 := by kernel_rfl
  i5 := by kernel_rfl
  i9 := by kernel_rfl
  i20 := by kernel_rfl
  i21 := by kernel_rfl
  i37 := by kernel_rfl
  i46 := by kernel_rfl
  i51 := by kernel_rfl
  i53 := by kernel_rfl
  i75 := by kernel_rfl
  i76 := by kernel_rfl
  i80 := by kernel_rfl
  i85 := by kernel_rfl
  i127 := by kernel_rfl
  i143 := by kernel_rfl
  i145 := by kernel_rfl
  i167 := by kernel_rfl
  i168 := by kernel_rfl
  i171 := by kernel_rfl
  i173 := by kernel_rfl
  i175 := by kernel_rfl
  i210 := by kernel_rfl
  i212 := by kernel_rfl
  i232 := by kernel_rfl
  i233 := by kernel_rfl
  m15 := by kernel_rfl
  m16 := by kernel_rfl
  m17 := by kernel_rfl
  m18 := by kernel_rfl
  m19 := by kernel_rfl
  c0 := by kernel_rfl
  c2 := by kernel_rfl
  c3 := by kernel_rfl
  c4 := by kernel_rfl
  c5 := by kernel_rfl
  c9 := by kernel_rfl
  c20 := by kernel_rfl
  c21 := by kernel_rfl
  c37 := by kernel_rfl
  c46 := by kernel_rfl
  c51 := by kernel_rfl
  c53 := by kernel_rfl
  c75 := by kernel_rfl
  c76 := by kernel_rfl
  c80 := by kernel_rfl
  c85 := by kernel_rfl
  c127 := by kernel_rfl
  c143 := by kernel_rfl
  c145 := by kernel_rfl
  c167 := by kernel_rfl
  c168 := by kernel_rfl
  c171 := by kernel_rfl
  c173 := by kernel_rfl
  c175 := by kernel_rfl
  c210 := by kernel_rfl
  c212 := by kernel_rfl
  c213 := by kernel_rfl
  c232 := by kernel_rfl
  c233 := by kernel_rfl }
open Go.RowKit in
theorem Tryz.strconv_Atoi_ok (s : ByteArray) (hmax : s.size ≤ 9223372036854775806) (v : Int) (h : Lib.atoiAll s.data.toList = .ok v) (w : World) :
    Calls Tryz.prog 150 #[.string s] w fun e w' => e = .returned (.tuple #[.int .i64 v, .nilIface]) ∧ (w' = w ∨ ∃ t, w' = Lib.bytesWorld w 5 t) := Any.strconv_Atoi_ok Tryz.laysC172 s hmax v h w
open Go.RowKit in
theorem Tryz.strconv_Atoi_range_var (s : ByteArray) (hlim : s.size ≤ 281474976710656) (h : Lib.atoiAll s.data.toList = .range) (tp : TypeId) (p : Value) (w : World) (hvar : w.var? Tryz.prog "strconv.ErrRange" = some #[.iface tp p]) :
    Calls Tryz.prog 150 #[.string s] w fun e w' => ∃ N, e = .returned (.tuple #[.int .i64 (Lib.atoiSat s.data.toList), .iface 213 (.pointer (some ⟨N, 0, none⟩))]) ∧ w.heap.size ≤ N ∧ w'.heap[N]? = some (.cells #[.string ⟨#[65, 116, 111, 105]⟩, .string s, .iface tp p] 224 (0, 0)) ∧ Below w.heap.size w w' := Any.strconv_Atoi_range_var Tryz.laysC172 s hlim h tp p w hvar
end Go.Proofs

/- Texts of terms are read back: pure. -/
namespace Go.Proofs.YtjjaknmnhhfjeaaGreatDoor
open Go.RowKit Go.Hw Go Go.Sort Go.Proofs Go.ChangeMaps
set_option linter.unusedVariables false
set_option linter.unusedSimpArgs false

open Tm
inductive Pc where
  | wd (w : List UInt8)
  | sy (p : List UInt8)
  | bl (c : UInt8)
def Pc.tx : Pc → List UInt8
  | .wd w => w
  | .sy p => p
  | .bl c => [c]
def pTx : List Pc → List UInt8
  | [] => []
  | p :: r => p.tx ++ pTx r
theorem pTx_app : ∀ (a b : List Pc), pTx (a ++ b) = pTx a ++ pTx b
  | [], b => rfl
  | p :: a, b => by rw [List.cons_append, pTx, pTx, pTx_app a b, List.append_assoc]
def hdC : List UInt8 → Nat
  | [] => 0
  | c :: _ => clsN c.toNat
def PcOk (wd : By → Wd) : List Pc → Prop
  | [] => True
  | .wd w :: r => w ≠ [] ∧ (∀ c ∈ w, 2 ≤ clsN c.toNat) ∧ hdC (pTx r) < 2 ∧ (wd (bs w)).ok = true ∧ PcOk wd r
  | .sy p :: r => p ≠ [] ∧ hdC p = 0 ∧ p.head? ≠ some 35 ∧ symF (bs (p ++ pTx r)) = p ∧ PcOk wd r
  | .bl c :: r => clsN c.toNat = 1 ∧ PcOk wd r
def pcK (wd : By → Wd) : List Pc → List (Nat × By)
  | [] => []
  | .wd w :: r => ((wd (bs w)).kind, (wd (bs w)).text) :: pcK wd r
  | .sy p :: r => (4, bs p) :: pcK wd r
  | .bl _ :: r => pcK wd r
theorem pcK_app (wd : By → Wd) : ∀ (a b : List Pc), pcK wd (a ++ b) = pcK wd a ++ pcK wd b
  | [], b => rfl
  | .wd w :: a, b => by rw [List.cons_append, pcK, pcK, pcK_app wd a b]; rfl
  | .sy w :: a, b => by rw [List.cons_append, pcK, pcK, pcK_app wd a b]; rfl
  | .bl w :: a, b => by rw [List.cons_append, pcK, pcK, pcK_app wd a b]
theorem byt_mid {s : By} {pre r : List UInt8} {c : UInt8} (h : s.data.toList = pre ++ c :: r) : byt s pre.length = c.toNat := by
  unfold byt
  rw [h, List.getD_eq_getElem?_getD, List.getElem?_append_right (Nat.le_refl _), Nat.sub_self]
  rfl
theorem size_of {s : By} {l : List UInt8} (h : s.data.toList = l) : s.size = l.length := by rw [← h]; rfl
theorem ext_mid {s : By} {pre w r : List UInt8} (h : s.data.toList = pre ++ (w ++ r)) : s.extract pre.length (pre.length + w.length) = bs w := by
  apply ba_list
  rw [bs_data, ByteArray.data_extract, Array.toList_extract, h]
  simp [List.extract]
theorem ext_end {s : By} {pre r : List UInt8} (h : s.data.toList = pre ++ r) : s.extract pre.length s.size = bs r := by
  have h2 := ext_mid (s := s) (pre := pre) (w := r) (r := []) (by rw [h, List.append_nil])
  rw [← h2]
  congr 1
  rw [size_of h, List.length_append]
theorem wdE_mid {s : By} {r : List UInt8} (hr : hdC r < 2) : ∀ (w pre : List UInt8) (m : Nat), s.data.toList = pre ++ (w ++ r) → (∀ c ∈ w, 2 ≤ clsN c.toNat) → s.size - pre.length ≤ m → wdE s m pre.length = pre.length + w.length
  | [], pre, m, h, _, hm => by
    refine wdE_end hm (fun h2 => ?_)
    cases r with
    | nil => have := size_of h; simp at this; omega
    | cons c r =>
      have := byt_mid (s := s) (pre := pre) (r := r) (c := c) (by rw [h]; rfl)
      rw [this] at h2
      exact absurd h2.2 (by have : hdC (c :: r) = clsN c.toNat := rfl; omega)
  | c :: w, pre, m, h, hw, hm => by
    have hb := byt_mid (s := s) (pre := pre) (r := w ++ r) (c := c) (by rw [h]; rfl)
    have hz := size_of h
    rw [List.length_append, List.cons_append, List.length_cons] at hz
    obtain ⟨m', h1, h2⟩ := wdE_go hm ⟨by omega, by rw [hb]; exact hw c (List.mem_cons_self ..)⟩
    have hl : (pre ++ [c]).length = pre.length + 1 := by simp
    have ih := wdE_mid hr w (pre ++ [c]) m' (by rw [h]; simp) (fun x hx => hw x (List.mem_cons_of_mem _ hx)) (by rw [hl]; exact h2)
    rw [hl] at ih
    rw [h1, ih, List.length_cons]; omega
theorem lex_pcs (wd : By → Wd) (s : By) : ∀ (ps : List Pc) (pre : List UInt8) (n ln bg : Nat) (l : List Tok), PcOk wd ps → s.data.toList = pre ++ pTx ps → (pTx ps).length ≤ n → ∃ l' e, tkF wd s n pre.length ln bg l = .ok (l ++ l' ++ [e]) ∧ e.kind = 5 ∧ l'.map (fun t => (t.kind, t.text)) = pcK wd ps := by
  intro ps
  induction ps with
  | nil =>
    intro pre n ln bg l _ hs _
    have hz : s.size = pre.length := by rw [size_of hs]; simp [pTx]
    refine ⟨[], ⟨5, nul, 0, ln, (s.size : Int) - (bg : Int) + 1⟩, ?_, rfl, rfl⟩
    rw [List.append_nil]
    cases n with
    | zero => rw [tkF]
    | succ n => rw [tkF, if_pos (by omega)]
  | cons p ps ih =>
    intro pre n ln bg l hok hs hn
    cases p with
    | wd w =>
      obtain ⟨h1, h2, h3, h4, h5⟩ := hok
      have hs' : s.data.toList = pre ++ (w ++ pTx ps) := hs
      have hz := size_of hs'
      rw [List.length_append, List.length_append] at hz
      have hX := ext_mid hs'
      have hE := wdE_mid h3 w pre s.size hs' h2 (by omega)
      have hn' : w.length + (pTx ps).length ≤ n := by rw [← List.length_append]; exact hn
      cases w with
      | nil => exact absurd rfl h1
      | cons c w =>
        have hb := byt_mid (s := s) (pre := pre) (r := w ++ pTx ps) (c := c) (by rw [hs']; rfl)
        have hc := h2 c (List.mem_cons_self ..)
        rw [List.length_cons] at hz hn'
        cases n with
        | zero => omega
        | succ n =>
          have h35 : ¬ byt s pre.length = 35 := fun e => by
            rw [hb] at e; rw [e] at hc; exact absurd hc (by decide)
          obtain ⟨l', e, g1, g2, g3⟩ := ih (pre ++ c :: w) n ln bg (l ++ [⟨(wd (bs (c :: w))).kind, (wd (bs (c :: w))).text, (wd (bs (c :: w))).n, ln, (pre.length : Int) - (bg : Int) + 1⟩]) h5 (by rw [hs', List.append_assoc]) (by omega)
          refine ⟨⟨(wd (bs (c :: w))).kind, (wd (bs (c :: w))).text, (wd (bs (c :: w))).n, ln, (pre.length : Int) - (bg : Int) + 1⟩ :: l', e, ?_, g2, ?_⟩
          · rw [tkF, if_neg (by omega), if_neg (by rw [hb]; omega), if_neg h35, if_pos (by rw [hb]; exact hc), hE, hX, if_pos h4, ← List.length_append, g1, List.append_assoc l]
            rfl
          · rw [List.map_cons, g3]; rfl
    | sy p =>
      obtain ⟨h1, h2, h3, h4, h5⟩ := hok
      have hs' : s.data.toList = pre ++ (p ++ pTx ps) := hs
      have hz := size_of hs'
      rw [List.length_append, List.length_append] at hz
      have hX := ext_end hs'
      have hn' : p.length + (pTx ps).length ≤ n := by rw [← List.length_append]; exact hn
      cases p with
      | nil => exact absurd rfl h1
      | cons c w =>
        have hb := byt_mid (s := s) (pre := pre) (r := w ++ pTx ps) (c := c) (by rw [hs']; rfl)
        have hc : clsN c.toNat = 0 := h2
        rw [List.length_cons] at hz hn'
        cases n with
        | zero => omega
        | succ n =>
          have h35 : ¬ byt s pre.length = 35 := fun e => by
            rw [hb] at e
            exact h3 (by rw [List.head?_cons]; congr 1; exact UInt8.toNat_inj.1 e)
          obtain ⟨l', e, g1, g2, g3⟩ := ih (pre ++ c :: w) n ln bg (l ++ [⟨4, bs (c :: w), 0, ln, (pre.length : Int) - (bg : Int) + 1⟩]) h5 (by rw [hs', List.append_assoc]) (by omega)
          refine ⟨⟨4, bs (c :: w), 0, ln, (pre.length : Int) - (bg : Int) + 1⟩ :: l', e, ?_, g2, ?_⟩
          · rw [tkF, if_neg (by omega), if_neg (by rw [hb]; omega), if_neg h35, if_neg (by rw [hb]; omega), hX, h4, if_neg (by simp), ← List.length_append, g1, List.append_assoc l]
            rfl
          · rw [List.map_cons, g3]; rfl
    | bl c =>
      obtain ⟨h1, h5⟩ := hok
      have hs' : s.data.toList = pre ++ c :: pTx ps := hs
      have hz := size_of hs'
      rw [List.length_append, List.length_cons] at hz
      have hb := byt_mid hs'
      have hn' : (pTx ps).length + 1 ≤ n := by
        have : (pTx (.bl c :: ps)).length = (pTx ps).length + 1 := by simp [pTx, Pc.tx]
        omega
      cases n with
      | zero => omega
      | succ n =>
        have hl : (pre ++ [c]).length = pre.length + 1 := by simp
        by_cases h10 : byt s pre.length = 10
        · obtain ⟨l', e, g1, g2, g3⟩ := ih (pre ++ [c]) n (ln + 1) (pre.length + 1) l h5 (by rw [hs', List.append_assoc]; rfl) (by omega)
          refine ⟨l', e, ?_, g2, g3⟩
          rw [hl] at g1
          rw [tkF, if_neg (by omega), if_pos (by rw [hb]; exact h1), if_pos h10, g1]
        · obtain ⟨l', e, g1, g2, g3⟩ := ih (pre ++ [c]) n ln bg l h5 (by rw [hs', List.append_assoc]; rfl) (by omega)
          refine ⟨l', e, ?_, g2, g3⟩
          rw [hl] at g1
          rw [tkF, if_neg (by omega), if_pos (by rw [hb]; exact h1), if_neg h10, g1]
theorem lex_all (wd : By → Wd) (ps : List Pc) (h : PcOk wd ps) (hl : (pTx ps).length ≤ 65536) : ∃ l' e, tokF wd (bs (pTx ps)) = .ok (l' ++ [e]) ∧ e.kind = 5 ∧ l'.map (fun t => (t.kind, t.text)) = pcK wd ps := by
  have hz : (bs (pTx ps)).size = (pTx ps).length := bs_size _
  obtain ⟨l', e, h1, h2, h3⟩ := lex_pcs wd (bs (pTx ps)) ps [] (bs (pTx ps)).size 1 0 [] h (by rw [bs_data]; rfl) (by omega)
  refine ⟨l', e, ?_, h2, h3⟩
  unfold tokF
  rw [if_neg (by omega)]
  exact h1
/-! ### the text of a term -/
theorem hp_ne {c d : UInt8} (h : d ≠ c) (r p : List UInt8) : ¬ hpB (bs (c :: r)) (d :: p) = true := by
  have e : hpB (bs (c :: r)) (d :: p) = (d == c && p.isPrefixOf r) := rfl
  rw [e, beq_eq_false_iff_ne.2 h, Bool.false_and]
  decide
theorem sym_1 (c : UInt8) (r : List UInt8) (h : (c = 40 ∨ c = 41) ∨ c = 44 ∨ c = 58) : symF (bs (c :: r)) = [c] := by
  have hg : (bs (c :: r)).data.toList.getD 0 0 = c := rfl
  have hz : 0 < (bs (c :: r)).size := by rw [bs_size]; simp
  have h1 : 61 ≠ c ∧ 33 ≠ c ∧ 60 ≠ c ∧ 45 ≠ c ∧ 0 ≤ Lib.indexByte symSet c := by rcases h with (rfl | rfl) | rfl | rfl <;> decide
  unfold symF
  rw [if_neg (hp_ne h1.1 _ _), if_neg (hp_ne h1.2.1 _ _), if_neg (hp_ne h1.2.2.1 _ _), if_neg (hp_ne h1.2.2.2.1 _ _), hg, if_pos ⟨hz, h1.2.2.2.2⟩]
theorem nm_chars {n : By} (h : nmB n = true) : n.data.toList ≠ [] ∧ (∀ c ∈ n.data.toList, 2 ≤ clsN c.toNat) ∧ kwB n = false := by
  unfold nmB at h
  simp only [Bool.and_eq_true, decide_eq_true_eq] at h
  obtain ⟨⟨h1, _⟩, _, h3, h4⟩ := h
  refine ⟨fun e => ?_, fun c hc => ?_, by simpa using h4⟩
  · have : n.data.toList.length = n.size := rfl
    rw [e] at this; simp at this; omega
  · have := List.all_eq_true.1 h3 c hc
    rw [cls_wrd] at this
    exact of_decide_eq_true this
theorem nm_wd (iF : By → Int × Bool) {n : By} (h : nmB n = true) : wdF iF n = ⟨1, n, 0, true⟩ := by
  unfold wdF
  rw [if_neg (by rw [(nm_chars h).2.2]; decide), if_pos h]
theorem pc_nm (iF : By → Int × Bool) {n : By} (h : nmB n = true) (r : List Pc) (hr : hdC (pTx r) < 2) (hk : PcOk (wdF iF) r) : PcOk (wdF iF) (.wd n.data.toList :: r) := by
  obtain ⟨h1, h2, h3⟩ := nm_chars h
  exact ⟨h1, h2, hr, by rw [bs_of, nm_wd iF h], hk⟩
theorem pc_sy (wd : By → Wd) (c : UInt8) (h : (c = 40 ∨ c = 41) ∨ c = 44 ∨ c = 58) (r : List Pc) (hk : PcOk wd r) : PcOk wd (.sy [c] :: r) :=
  ⟨by simp, by rcases h with (rfl | rfl) | rfl | rfl <;> decide, by rcases h with (rfl | rfl) | rfl | rfl <;> decide, sym_1 c _ h, hk⟩
/-! ### reading tokens of which kinds and texts are known -/
abbrev kt (l : List Tok) (i : Nat) : Nat × By := ((tk l i).kind, (tk l i).text)
def Seg (l : List Tok) (i : Nat) (K : List (Nat × By)) : Prop := i + K.length ≤ l.length ∧ ∀ j, j < K.length → kt l (i + j) = K.getD j (0, nul)
theorem Seg.left {l : List Tok} {i : Nat} {A B : List (Nat × By)} (h : Seg l i (A ++ B)) : Seg l i A := by
  obtain ⟨h1, h2⟩ := h
  rw [List.length_append] at h1 h2
  refine ⟨by omega, fun j hj => ?_⟩
  rw [h2 j (by omega), List.getD_eq_getElem?_getD, List.getElem?_append_left hj, ← List.getD_eq_getElem?_getD]
theorem Seg.right {l : List Tok} {i : Nat} {A B : List (Nat × By)} (h : Seg l i (A ++ B)) : Seg l (i + A.length) B := by
  obtain ⟨h1, h2⟩ := h
  rw [List.length_append] at h1 h2
  refine ⟨by omega, fun j hj => ?_⟩
  rw [Nat.add_assoc, h2 _ (by omega), List.getD_eq_getElem?_getD, List.getElem?_append_right (by omega), Nat.add_sub_cancel_left, ← List.getD_eq_getElem?_getD]
theorem Seg.head {l : List Tok} {i : Nat} {a : Nat × By} {B : List (Nat × By)} (h : Seg l i (a :: B)) : (tk l i).kind = a.1 ∧ (tk l i).text = a.2 ∧ Seg l (i + 1) B := by
  have h1 := h.2 0 (by simp)
  have h2 : kt l i = a := h1
  exact ⟨congrArg Prod.fst h2, congrArg Prod.snd h2, Seg.right (A := [a]) h⟩
theorem isB_of {l : List Tok} {i : Nat} {a s : By} (h1 : (tk l i).kind = 4) (h2 : (tk l i).text = a) : isB (tk l i) s = decide (a = s) := by
  unfold isB; rw [h1, h2]; rfl
theorem isB_nm {l : List Tok} {i : Nat} {s : By} (h1 : (tk l i).kind = 1) : isB (tk l i) s = false := by
  unfold isB; rw [h1]; rfl
def kL {α : Type} (kf : α → List (Nat × By)) : Bool → List α → List (Nat × By)
  | _, [] => []
  | f, x :: L => (if f = true then [] else [(4, sCm)]) ++ (kf x ++ kL kf false L)
theorem pL_back {α : Type} {l : List Tok} {el : Nat → PR α} {kf : α → List (Nat × By)} (hk : ∀ x, ∃ a B, kf x = (1, a) :: B) : ∀ (L : List α) (f : Bool) (xs : List α) (m i : Nat), (∀ x ∈ L, ∀ i, Seg l i (kf x) → el i = .ok x (i + (kf x).length)) → Seg l i (kL kf f L ++ [(4, sRp)]) → L.length < m → pL el l m i f xs = .ok (xs ++ L) (i + (kL kf f L).length + 1)
  | [], f, xs, m + 1, i, _, h, _ => by
    obtain ⟨h1, h2, _⟩ := Seg.head (a := (4, sRp)) (B := []) h
    rw [pL, if_pos (by rw [isB_of h1 h2]; decide), List.append_nil]
    rfl
  | x :: L, f, xs, 0, i, _, _, hm => by cases hm
  | x :: L, f, xs, m + 1, i, he, h, hm => by
    have hx := he x (List.mem_cons_self ..)
    have hm2 : L.length < m := by simpa using hm
    have heL : ∀ y ∈ L, ∀ i, Seg l i (kf y) → el i = .ok y (i + (kf y).length) := fun y hy => he y (List.mem_cons_of_mem _ hy)
    rw [kL, List.append_assoc, List.append_assoc] at h
    obtain ⟨a0, B, hB⟩ := hk x
    cases f with
    | true =>
      have h2 : Seg l i (kf x ++ (kL kf false L ++ [(4, sRp)])) := h
      have h3 := h2.left
      rw [hB] at h3
      obtain ⟨g1, _, _⟩ := h3.head
      have g3 := hx i h2.left
      have g4 := pL_back hk L false (xs ++ [x]) m _ heL h2.right hm2
      rw [pL, if_neg (by rw [isB_nm g1]; decide), if_neg (fun h => by cases h.1), if_pos rfl, g3]
      show pL el l m (i + (kf x).length) false (xs ++ [x]) = _
      rw [g4, kL, List.append_assoc]
      congr 1
      simp only [if_true, List.nil_append, List.length_append]; omega
    | false =>
      have h2 : Seg l i ((4, sCm) :: (kf x ++ (kL kf false L ++ [(4, sRp)]))) := h
      obtain ⟨g1, g2, h5⟩ := h2.head
      have g3 := hx (i + 1) h5.left
      have g4 := pL_back hk L false (xs ++ [x]) m _ heL h5.right hm2
      rw [pL, if_neg (by rw [isB_of g1 g2]; decide), if_neg (fun h => by have := h.2; rw [isB_of g1 g2] at this; exact absurd this (by decide)), if_neg (by decide), g3]
      show pL el l m (i + 1 + (kf x).length) false (xs ++ [x]) = _
      rw [g4, kL, List.append_assoc]
      congr 1
      simp only [Bool.false_eq_true, if_false, List.length_append, List.length_cons, List.length_nil]; omega
theorem seg_all {l' : List Tok} {e : Tok} {K : List (Nat × By)} (h : l'.map (fun t => (t.kind, t.text)) = K) : Seg (l' ++ [e]) 0 K ∧ tk (l' ++ [e]) K.length = e := by
  have hl : K.length = l'.length := by rw [← h, List.length_map]
  refine ⟨⟨by rw [List.length_append]; omega, fun j hj => ?_⟩, ?_⟩
  · have hj2 : j < l'.length := by omega
    have e1 : tk (l' ++ [e]) (0 + j) = l'[j] := by
      unfold tk
      rw [Nat.zero_add, List.getD_eq_getElem?_getD, List.getElem?_append_left hj2, List.getElem?_eq_getElem hj2]
      rfl
    have e2 : K.getD j (0, nul) = (l'[j].kind, l'[j].text) := by
      rw [← h, List.getD_eq_getElem?_getD, List.getElem?_map, List.getElem?_eq_getElem hj2]
      rfl
    unfold kt
    rw [e1, e2]
  · unfold tk
    rw [hl, List.getD_eq_getElem?_getD, List.getElem?_append_right (Nat.le_refl _), Nat.sub_self]
    rfl
end Go.Proofs.YtjjaknmnhhfjeaaGreatDoor

/- Signatures are read: pure. -/
namespace Go.Proofs.YtjjaknmnhhfjeaaGreatDoor
open Go.RowKit Go.Hw Go Go.Sort Go.Proofs Go.ChangeMaps
set_option linter.unusedVariables false
set_option linter.unusedSimpArgs false

open Tm
def wSort : By := ⟨#[115, 111, 114, 116]⟩
def wOp : By := ⟨#[111, 112]⟩
def sAr : By := ⟨#[45, 62]⟩
def pN (l : List Tok) (i : Nat) : PR By := if (tk l i).kind ≠ 1 then .bad i else .ok (tk l i).text (i + 1)
theorem pN_fwd {l : List Tok} (h : Ended l) : Fwd l (pN l) := fun i hi => by
  unfold pN
  by_cases h1 : (tk l i).kind ≠ 1
  · rw [if_pos h1]
    exact ⟨Nat.le_refl _, hi, fun x j e => by cases e⟩
  · rw [if_neg h1]
    exact ⟨Nat.le_succ _, h.next hi (by omega), fun x j e => by injection e; omega⟩
def pD (l : List Tok) (i : Nat) : PR Dc := match pN l i with
  | .bad j => .bad j
  | .ok nm i1 => match pP (pN l) l i1 with
    | .bad j => .bad j
    | .ok az i2 => if isB (tk l i2) sAr = true then (match pN l (i2 + 1) with
      | .bad j => .bad j
      | .ok r i3 => .ok (nm, az, r) i3) else .bad i2
theorem pD_fwd {l : List Tok} (h : Ended l) : Fwd l (pD l) := fun i hi => by
  unfold pD
  obtain ⟨a1, a2, a3⟩ := pN_fwd h i hi
  cases h1 : pN l i with
  | bad j => rw [h1] at a1 a2; exact ⟨a1, a2, fun x j e => by cases e⟩
  | ok nm i1 =>
    dsimp only
    rw [h1] at a1 a2
    have a4 := a3 _ _ h1
    have a2 : i1 < l.length := a2
    obtain ⟨b1, b2, b3⟩ := pP_fwd h (pN_fwd h) a2
    cases h2 : pP (pN l) l i1 with
    | bad j => rw [h2] at b1 b2; exact ⟨by simp only [PR.at] at *; omega, b2, fun x j e => by cases e⟩
    | ok az i2 =>
      dsimp only
      rw [h2] at b1 b2
      have b4 := b3 _ _ h2
      have b2 : i2 < l.length := b2
      by_cases h3 : isB (tk l i2) sAr = true
      · rw [if_pos h3]
        have c0 := h.isB b2 h3
        obtain ⟨c1, c2, c3⟩ := pN_fwd h _ c0
        cases h4 : pN l (i2 + 1) with
        | bad j => rw [h4] at c1 c2; exact ⟨by simp only [PR.at] at *; omega, c2, fun x j e => by cases e⟩
        | ok r i3 =>
          rw [h4] at c1 c2
          have c4 := c3 _ _ h4
          exact ⟨by simp only [PR.at] at *; omega, c2, fun x j e => by injection e; omega⟩
      · rw [if_neg h3]
        exact ⟨by simp only [PR.at] at *; omega, b2, fun x j e => by cases e⟩
def pM {α : Type} (el : Nat → PR α) (kw : By) (l : List Tok) : Nat → Nat → List α → PR (List α)
  | 0, i, xs => .bad i
  | n + 1, i, xs => if isB (tk l i) kw = true then (match el (i + 1) with
    | .bad j => .bad j
    | .ok x j => pM el kw l n j (xs ++ [x])) else .ok xs i
theorem pM_fwd {α : Type} {l : List Tok} (h : Ended l) {el : Nat → PR α} (he : Fwd l el) (kw : By) : ∀ (n i : Nat) (xs : List α), i < l.length → i ≤ (pM el kw l n i xs).at ∧ (pM el kw l n i xs).at < l.length
  | 0, i, xs, hi => ⟨Nat.le_refl _, hi⟩
  | n + 1, i, xs, hi => by
    unfold pM
    by_cases h1 : isB (tk l i) kw = true
    · rw [if_pos h1]
      have h2 := h.isB hi h1
      obtain ⟨a1, a2, a3⟩ := he _ h2
      cases h3 : el (i + 1) with
      | bad j => rw [h3] at a1 a2; exact ⟨by simp only [PR.at] at *; omega, a2⟩
      | ok x j =>
        rw [h3] at a1 a2
        have a2 : j < l.length := a2
        have a4 := a3 _ _ h3
        obtain ⟨b1, b2⟩ := pM_fwd h he kw n j (xs ++ [x]) a2
        exact ⟨Nat.le_trans (by omega) b1, b2⟩
    · rw [if_neg h1]
      exact ⟨Nat.le_refl _, hi⟩
def pG (l : List Tok) : PR Sg := match pM (pN l) wSort l l.length 0 [] with
  | .bad j => .bad j
  | .ok ss i => match pM (pD l) wOp l l.length i [] with
    | .bad j => .bad j
    | .ok os j => .ok (ss, os) j
def nulG : Sg := ([], [])
def psgF (s : By) : Sg × (Int × Int) × Int := match tokF (wdF iR) s with
  | .full => (nulG, (0, 0), 4)
  | .bad ln col => (nulG, (ln, col), 7)
  | .ok l => match pG l with
    | .bad j => (nulG, ((tk l j).line, (tk l j).col), if (tk l j).kind = 5 then 8 else 7)
    | .ok g j => if (tk l j).kind ≠ 5 then (nulG, ((tk l j).line, (tk l j).col), 7) else if vsgB nmB g = true then (g, (0, 0), 0) else (nulG, (0, 0), 1)
/-! ### what a lexer's tokens are -/
def TkOk (t : Tok) : Prop := (t.kind = 3 → kwB t.text = true) ∧ (t.kind = 4 → kwB t.text = false)
theorem kw_two : ∀ x ∈ kwL, 2 ≤ x.length := by decide +kernel
theorem kw_sy4 : ∀ x ∈ sy4, x ∉ kwL := by decide +kernel
theorem symF_cases (s : By) : symF s ∈ sy4 ∨ symF s = [] ∨ ∃ c, symF s = [c] := by
  unfold symF
  repeat' split
  all_goals first
    | exact .inl (by decide)
    | exact .inr (.inr ⟨_, rfl⟩)
    | exact .inr (.inl rfl)
theorem sy_nkw (s : By) : kwB (bs (symF s)) = false := by
  unfold kwB
  rw [bs_data]
  refine decide_eq_false (fun h => ?_)
  have h2 := kw_two _ h
  rcases symF_cases s with h3 | h3 | ⟨c, h3⟩
  · exact kw_sy4 _ h3 h
  · rw [h3] at h2; simp at h2
  · rw [h3] at h2; simp at h2
theorem wd_tkok (iF : By → Int × Bool) (s : By) (a b : Int) : TkOk ⟨(wdF iF s).kind, (wdF iF s).text, (wdF iF s).n, a, b⟩ := by
  unfold wdF
  by_cases h1 : kwB s = true
  · rw [if_pos h1]; exact ⟨fun _ => h1, fun h => (by cases h)⟩
  rw [if_neg h1]
  by_cases h2 : nmB s = true
  · rw [if_pos h2]; exact ⟨fun h => (by cases h), fun h => (by cases h)⟩
  · rw [if_neg h2]; exact ⟨fun h => (by cases h), fun h => (by cases h)⟩
theorem tkF_ok (iF : By → Int × Bool) (s : By) : ∀ (n i ln bg : Nat) (l l' : List Tok), (∀ t ∈ l, TkOk t) → tkF (wdF iF) s n i ln bg l = .ok l' → ∀ t ∈ l', TkOk t := by
  have hsn : ∀ (l : List Tok) (t : Tok), (∀ t ∈ l, TkOk t) → TkOk t → ∀ x ∈ l ++ [t], TkOk x := fun l t h ht x hx => by
    rcases List.mem_append.1 hx with h1 | h1
    · exact h x h1
    · rw [List.mem_singleton.1 h1]; exact ht
  have hend : ∀ a b c : Int, TkOk ⟨5, nul, a, b, c⟩ := fun a b c => ⟨fun h => (by cases h), fun h => (by cases h)⟩
  intro n
  induction n with
  | zero =>
    intro i ln bg l l' h e
    rw [tkF] at e
    injection e with e
    subst e
    exact hsn _ _ h (hend _ _ _)
  | succ n ih =>
    intro i ln bg l l' h e
    rw [tkF] at e
    split at e
    · injection e with e
      subst e
      exact hsn _ _ h (hend _ _ _)
    split at e
    · split at e
      · exact ih _ _ _ _ _ h e
      · exact ih _ _ _ _ _ h e
    split at e
    · exact ih _ _ _ _ _ h e
    split at e
    · split at e
      · exact ih _ _ _ _ _ (hsn _ _ h (wd_tkok iF _ _ _)) e
      · cases e
    split at e
    · cases e
    · exact ih _ _ _ _ _ (hsn _ _ h ⟨fun h => (by cases h), fun _ => sy_nkw _⟩) e
theorem tok_ok {iF : By → Int × Bool} {s : By} {l : List Tok} (h : tokF (wdF iF) s = .ok l) : ∀ i, TkOk (tk l i) := by
  unfold tokF at h
  split at h
  · cases h
  · have h2 := tkF_ok iF s s.size 0 1 0 [] l (fun t ht => by cases ht) h
    intro i
    unfold tk
    rw [List.getD_eq_getElem?_getD]
    cases h3 : l[i]? with
    | none => exact ⟨fun h => (by cases h), fun h => (by cases h)⟩
    | some t => exact h2 t (List.mem_of_getElem? h3)
theorem is4 {t : Tok} (h : TkOk t) {s : By} (hs : kwB s = false) : isB t s = (decide (t.kind = 4) && decide (t.text = s)) := by
  unfold isB
  by_cases h3 : t.kind = 3
  · have h4 : ¬ t.text = s := fun e => by have := h.1 h3; rw [e, hs] at this; cases this
    rw [decide_eq_false h4, Bool.and_false, Bool.and_false]
  · rw [decide_eq_false h3, Bool.or_false]
theorem is3 {t : Tok} (h : TkOk t) {s : By} (hs : kwB s = true) : isB t s = (decide (t.kind = 3) && decide (t.text = s)) := by
  unfold isB
  by_cases h3 : t.kind = 4
  · have h4 : ¬ t.text = s := fun e => by have := h.2 h3; rw [e, hs] at this; cases this
    rw [decide_eq_false h4, Bool.and_false, Bool.and_false]
  · rw [decide_eq_false h3, Bool.false_or]
theorem kw_no : kwB sCl = false ∧ kwB sLp = false ∧ kwB sRp = false ∧ kwB sCm = false ∧ kwB sAr = false ∧ kwB wSort = true ∧ kwB wOp = true := by decide +kernel
/-! ### a signature is read from its text -/
def nmPs : Bool → List By → List Pc
  | _, [] => []
  | f, a :: r => (if f = true then [] else [.sy [44], .bl 32]) ++ (.wd a.data.toList :: nmPs false r)
def soP (s : By) : List Pc := [.wd wSort.data.toList, .bl 32, .wd s.data.toList, .bl 10]
def dcP (d : Dc) : List Pc := [.wd wOp.data.toList, .bl 32, .wd d.1.data.toList, .sy [40]] ++ (nmPs true d.2.1 ++ [.sy [41], .bl 32, .sy [45, 62], .bl 32, .wd d.2.2.data.toList, .bl 10])
def sgP (g : Sg) : List Pc := g.1.flatMap soP ++ g.2.flatMap dcP
def nmK (a : By) : List (Nat × By) := [(1, a)]
def soK (s : By) : List (Nat × By) := [(3, wSort), (1, s)]
def dcK (d : Dc) : List (Nat × By) := (3, wOp) :: (1, d.1) :: (4, sLp) :: (kL nmK true d.2.1 ++ [(4, sRp), (4, sAr), (1, d.2.2)])
theorem pTx_flat {α : Type} (f : α → List Pc) (g : α → List UInt8) (h : ∀ x, pTx (f x) = g x) : ∀ l : List α, pTx (l.flatMap f) = l.flatMap g
  | [] => rfl
  | x :: l => by rw [List.flatMap_cons, List.flatMap_cons, pTx_app, h, pTx_flat f g h l]
theorem pTx_nm : ∀ l : List By, pTx (nmPs true l) = joinB l ∧ pTx (nmPs false l) = Lib.joinTail sepL (l.map (·.data.toList))
  | [] => ⟨rfl, rfl⟩
  | a :: r => by
    have ih := (pTx_nm r).2
    refine ⟨?_, ?_⟩
    · show a.data.toList ++ pTx (nmPs false r) = _
      rw [ih]
      unfold joinB
      rw [List.map_cons, Lib.join_cons]
    · show [44] ++ ([32] ++ (a.data.toList ++ pTx (nmPs false r))) = _
      rw [ih]; rfl
theorem pTx_so (s : By) : pTx (soP s) = sortT s := by
  show [115, 111, 114, 116] ++ ([32] ++ (s.data.toList ++ ([10] ++ []))) = _
  rw [List.append_nil]; rfl
theorem pTx_dc (d : Dc) : pTx (dcP d) = declT d := by
  unfold dcP declT
  rw [pTx_app, pTx_app, (pTx_nm d.2.1).1]
  show ([111, 112] ++ ([32] ++ (d.1.data.toList ++ ([40] ++ [])))) ++ (joinB d.2.1 ++ ([41] ++ ([32] ++ ([45, 62] ++ ([32] ++ (d.2.2.data.toList ++ ([10] ++ []))))))) = _
  simp
theorem pTx_sg (g : Sg) : pTx (sgP g) = tsgL g := by
  unfold sgP tsgL
  rw [pTx_app, pTx_flat soP sortT pTx_so, pTx_flat dcP declT pTx_dc]
theorem sym_ar (r : List UInt8) : symF (bs (45 :: 62 :: r)) = [45, 62] := by
  unfold symF
  rw [if_neg (hp_ne (by decide) _ _), if_neg (hp_ne (by decide) _ _), if_neg (hp_ne (by decide) _ _), if_pos (show hpB (bs (45 :: 62 :: r)) [45, 62] = true from rfl)]
theorem kw_wd (iF : By → Int × Bool) {n : By} (h : kwB n = true) : wdF iF n = ⟨3, n, 0, true⟩ := by
  unfold wdF
  rw [if_pos h]
theorem pc_kw (iF : By → Int × Bool) (n : By) (h : n = wSort ∨ n = wOp) (r : List Pc) (hk : PcOk (wdF iF) r) : PcOk (wdF iF) (.wd n.data.toList :: .bl 32 :: r) := by
  have h1 : kwB n = true := by rcases h with rfl | rfl; exact kw_no.2.2.2.2.2.1; exact kw_no.2.2.2.2.2.2
  refine ⟨by rcases h with rfl | rfl <;> decide, by rcases h with rfl | rfl <;> decide, by show clsN 32 < 2; decide, by rw [bs_of, kw_wd iF h1], by decide, hk⟩
theorem nm_pc (iF : By → Int × Bool) : ∀ (l : List By) (f : Bool) (r : List Pc), (∀ s ∈ l, nmB s = true) → PcOk (wdF iF) r → hdC (pTx r) < 2 → PcOk (wdF iF) (nmPs f l ++ r) ∧ (f = false → hdC (pTx (nmPs f l ++ r)) < 2)
  | [], f, r, _, hr, h2 => ⟨hr, fun _ => h2⟩
  | a :: l, f, r, h, hr, h2 => by
    obtain ⟨k1, k2⟩ := nm_pc iF l false r (fun s hs => h s (List.mem_cons_of_mem _ hs)) hr h2
    have k3 := pc_nm iF (h a (List.mem_cons_self ..)) _ (k2 rfl) k1
    cases f with
    | true => exact ⟨k3, fun h => (by cases h)⟩
    | false =>
      refine ⟨pc_sy _ 44 (.inr (.inl rfl)) _ ⟨by decide, k3⟩, fun _ => ?_⟩
      show clsN 44 < 2
      decide
theorem so_pc (iF : By → Int × Bool) (s : By) (h : nmB s = true) (r : List Pc) (hr : PcOk (wdF iF) r) : PcOk (wdF iF) (soP s ++ r) :=
  pc_kw iF wSort (.inl rfl) _ (pc_nm iF h _ (by show clsN 10 < 2; decide) ⟨by decide, hr⟩)
theorem dc_pc (iF : By → Int × Bool) (d : Dc) (h1 : nmB d.1 = true) (h2 : ∀ s ∈ d.2.1, nmB s = true) (h3 : nmB d.2.2 = true) (r : List Pc) (hr : PcOk (wdF iF) r) : PcOk (wdF iF) (dcP d ++ r) := by
  have k1 : PcOk (wdF iF) (.wd d.2.2.data.toList :: .bl 10 :: r) := pc_nm iF h3 _ (by show clsN 10 < 2; decide) ⟨by decide, hr⟩
  have k2 : PcOk (wdF iF) (.sy [45, 62] :: .bl 32 :: .wd d.2.2.data.toList :: .bl 10 :: r) := ⟨by simp, by decide, by decide, sym_ar _, by decide, k1⟩
  have k3 : PcOk (wdF iF) (.sy [41] :: .bl 32 :: .sy [45, 62] :: .bl 32 :: .wd d.2.2.data.toList :: .bl 10 :: r) := pc_sy _ 41 (.inl (.inr rfl)) _ ⟨by decide, k2⟩
  have k4 := (nm_pc iF d.2.1 true _ h2 k3 (by show clsN 41 < 2; decide)).1
  have k5 := pc_kw iF wOp (.inr rfl) _ (pc_nm iF h1 _ (by show clsN 40 < 2; decide) (pc_sy _ 40 (.inl (.inl rfl)) _ k4))
  have e : dcP d ++ r = .wd wOp.data.toList :: .bl 32 :: .wd d.1.data.toList :: .sy [40] :: (nmPs true d.2.1 ++ (.sy [41] :: .bl 32 :: .sy [45, 62] :: .bl 32 :: .wd d.2.2.data.toList :: .bl 10 :: r)) := by
    unfold dcP
    rw [List.append_assoc, List.append_assoc]; rfl
  rw [e]
  exact k5
theorem flat_pc {α : Type} (wd : By → Wd) (f : α → List Pc) : ∀ (l : List α), (∀ x ∈ l, ∀ r, PcOk wd r → PcOk wd (f x ++ r)) → ∀ r, PcOk wd r → PcOk wd (l.flatMap f ++ r)
  | [], _, r, hr => hr
  | x :: l, h, r, hr => by
    rw [List.flatMap_cons, List.append_assoc]
    exact h x (List.mem_cons_self ..) _ (flat_pc wd f l (fun y hy => h y (List.mem_cons_of_mem _ hy)) r hr)
theorem vsg_names {g : Sg} (h : vsgB nmB g = true) : (∀ s ∈ g.1, nmB s = true) ∧ ∀ d ∈ g.2, nmB d.1 = true ∧ nmB d.2.2 = true ∧ ∀ s ∈ d.2.1, nmB s = true := by
  unfold vsgB at h
  rw [Bool.and_eq_true, Bool.and_eq_true, Bool.and_eq_true, decide_eq_true_eq, decide_eq_true_eq] at h
  obtain ⟨_, _, h1, h2⟩ := h
  have h3 := ((precP_iff nmB g.1).1 h1).2.1
  refine ⟨fun s hs => h3 s hs, fun d hd => ?_⟩
  obtain ⟨j, hj, rfl⟩ := List.mem_iff_getElem.1 hd
  have h4 := List.all_eq_true.1 h2 j (List.mem_range.2 hj)
  unfold okD at h4
  rw [Bool.and_eq_true, Bool.and_eq_true, Bool.and_eq_true, Bool.and_eq_true, dg_at hj] at h4
  obtain ⟨a1, _, _, a4, a5⟩ := h4
  exact ⟨a1, h3 _ (of_decide_eq_true a4), fun s hs => h3 _ (of_decide_eq_true (List.all_eq_true.1 a5 s hs))⟩
theorem sg_pc (iF : By → Int × Bool) (g : Sg) (h : vsgB nmB g = true) : PcOk (wdF iF) (sgP g) := by
  obtain ⟨h1, h2⟩ := vsg_names h
  have h3 := flat_pc (wdF iF) dcP g.2 (fun d hd r hr => dc_pc iF d (h2 d hd).1 (h2 d hd).2.2 (h2 d hd).2.1 r hr) [] trivial
  rw [List.append_nil] at h3
  exact flat_pc (wdF iF) soP g.1 (fun s hs r hr => so_pc iF s (h1 s hs) r hr) _ h3
theorem pcK_flat {α : Type} (wd : By → Wd) (f : α → List Pc) (K : α → List (Nat × By)) : ∀ (l : List α), (∀ x ∈ l, pcK wd (f x) = K x) → pcK wd (l.flatMap f) = l.flatMap K
  | [], _ => rfl
  | x :: l, h => by rw [List.flatMap_cons, List.flatMap_cons, pcK_app, h x (List.mem_cons_self ..), pcK_flat wd f K l (fun y hy => h y (List.mem_cons_of_mem _ hy))]
theorem nm_k (iF : By → Int × Bool) : ∀ (l : List By) (f : Bool), (∀ s ∈ l, nmB s = true) → pcK (wdF iF) (nmPs f l) = kL nmK f l
  | [], f, _ => rfl
  | a :: l, f, h => by
    have ih := nm_k iF l false (fun s hs => h s (List.mem_cons_of_mem _ hs))
    have e := nm_wd iF (h a (List.mem_cons_self ..))
    rw [nmPs, kL, pcK_app, pcK, ih, bs_of, e]
    cases f <;> rfl
theorem sg_k (iF : By → Int × Bool) (g : Sg) (h : vsgB nmB g = true) : pcK (wdF iF) (sgP g) = g.1.flatMap soK ++ g.2.flatMap dcK := by
  obtain ⟨h1, h2⟩ := vsg_names h
  unfold sgP
  rw [pcK_app, pcK_flat _ soP soK, pcK_flat _ dcP dcK]
  · intro d hd
    obtain ⟨k1, k2, k3⟩ := h2 d hd
    unfold dcP
    rw [pcK_app, pcK_app, nm_k iF _ _ k3]
    show ((wdF iF (bs wOp.data.toList)).kind, (wdF iF (bs wOp.data.toList)).text) :: ((wdF iF (bs d.1.data.toList)).kind, (wdF iF (bs d.1.data.toList)).text) :: (4, bs [40]) :: (kL nmK true d.2.1 ++ [(4, bs [41]), (4, bs [45, 62]), ((wdF iF (bs d.2.2.data.toList)).kind, (wdF iF (bs d.2.2.data.toList)).text)]) = _
    rw [bs_of, bs_of, bs_of, kw_wd iF kw_no.2.2.2.2.2.2, nm_wd iF k1, nm_wd iF k2]
    rfl
  · intro s hs
    show [((wdF iF (bs wSort.data.toList)).kind, (wdF iF (bs wSort.data.toList)).text), ((wdF iF (bs s.data.toList)).kind, (wdF iF (bs s.data.toList)).text)] = _
    rw [bs_of, bs_of, kw_wd iF kw_no.2.2.2.2.2.1, nm_wd iF (h1 s hs)]
    rfl
theorem pN_back {l : List Tok} {a : By} {i : Nat} {B : List (Nat × By)} (h : Seg l i ((1, a) :: B)) : pN l i = .ok a (i + 1) := by
  obtain ⟨h1, h2, _⟩ := h.head
  unfold pN
  rw [if_neg (fun h => h h1), h2]
theorem kLn_len : ∀ (L : List By) (f : Bool), L.length ≤ (kL nmK f L).length
  | [], f => Nat.zero_le _
  | x :: L, f => by
    have h2 := kLn_len L false
    rw [kL, List.length_append, List.length_append, List.length_cons]
    have : (nmK x).length = 1 := rfl
    omega
theorem pD_back {l : List Tok} (d : Dc) (i : Nat) (B : List (Nat × By)) (h : Seg l i ((1, d.1) :: (4, sLp) :: (kL nmK true d.2.1 ++ [(4, sRp), (4, sAr), (1, d.2.2)]) ++ B)) : pD l i = .ok d (i + (kL nmK true d.2.1).length + 5) := by
  have h0 := h.left
  obtain ⟨a1, a2, h2⟩ := h0.head
  obtain ⟨b1, b2, h3⟩ := h2.head
  have h4 : Seg l (i + 1 + 1) ((kL nmK true d.2.1 ++ [(4, sRp)]) ++ [(4, sAr), (1, d.2.2)]) := by rw [List.append_assoc]; exact h3
  have h5 := h4.right
  rw [List.length_append, List.length_singleton] at h5
  obtain ⟨c1, c2, h6⟩ := h5.head
  have hb := pL_back (el := pN l) (kf := nmK) (fun x => ⟨x, [], rfl⟩) d.2.1 true [] (l.length - (i + 1)) (i + 1 + 1) (fun x hx j hj => pN_back hj) h4.left (by
    have := kLn_len d.2.1 true
    have := h4.1
    rw [List.length_append, List.length_append, List.length_singleton] at this
    omega)
  unfold pD
  rw [pN_back h0]
  simp only
  rw [pP, if_pos (by rw [isB_of b1 b2]; decide), hb]
  simp only
  rw [show i + 1 + 1 + (kL nmK true d.2.1).length + 1 = i + 1 + 1 + ((kL nmK true d.2.1).length + 1) by omega, if_pos (by rw [isB_of c1 c2]; decide), pN_back h6]
  simp only [List.nil_append]
  congr 1
  omega
theorem pM_back {α : Type} {l : List Tok} {el : Nat → PR α} {kw : By} {kf : α → List (Nat × By)} : ∀ (L : List α) (xs : List α) (n i : Nat) (B : List (Nat × By)), (∀ x ∈ L, ∀ i B, Seg l i (kf x ++ B) → isB (tk l i) kw = true ∧ el (i + 1) = .ok x (i + (kf x).length)) → Seg l i (L.flatMap kf ++ B) → isB (tk l (i + (L.flatMap kf).length)) kw = false → L.length < n → pM el kw l n i xs = .ok (xs ++ L) (i + (L.flatMap kf).length)
  | [], xs, n + 1, i, B, _, _, hb, _ => by
    have hb : isB (tk l i) kw = false := hb
    rw [pM, if_neg (by rw [hb]; decide), List.append_nil]
    rfl
  | x :: L, xs, 0, i, B, _, _, _, hm => by cases hm
  | x :: L, xs, n + 1, i, B, he, h, hb, hm => by
    rw [List.flatMap_cons] at h hb ⊢
    rw [List.append_assoc] at h
    obtain ⟨h1, h2⟩ := he x (List.mem_cons_self ..) i _ h
    rw [List.length_append] at hb ⊢
    have ih := pM_back (el := el) (kw := kw) L (xs ++ [x]) n _ B (fun y hy => he y (List.mem_cons_of_mem _ hy)) h.right (by rw [Nat.add_assoc]; exact hb) (by simpa using hm)
    rw [pM, if_pos h1, h2]
    show pM el kw l n _ (xs ++ [x]) = _
    rw [ih, List.append_assoc, Nat.add_assoc]
    rfl
theorem seg_tail {l' : List Tok} {e : Tok} {K : List (Nat × By)} (h : l'.map (fun t => (t.kind, t.text)) = K) : Seg (l' ++ [e]) 0 (K ++ [(e.kind, e.text)]) := by
  have h2 : (l' ++ [e]).map (fun t => (t.kind, t.text)) = K ++ [(e.kind, e.text)] := by rw [List.map_append, h]; rfl
  have := (seg_all (e := tok0) h2).1
  obtain ⟨g1, g2⟩ := this
  have hl : (K ++ [(e.kind, e.text)]).length = (l' ++ [e]).length := by rw [← h2, List.length_map]
  refine ⟨by omega, fun j hj => ?_⟩
  rw [← g2 j hj]
  unfold kt tk
  rw [List.getD_eq_getElem?_getD, List.getD_eq_getElem?_getD, List.getElem?_append_left (l₁ := l' ++ [e]) (by omega)]
theorem flatK_len {α : Type} (K : α → List (Nat × By)) (h : ∀ x, 0 < (K x).length) : ∀ l : List α, l.length ≤ (l.flatMap K).length
  | [] => Nat.zero_le _
  | x :: l => by
    have := flatK_len K h l
    have := h x
    rw [List.flatMap_cons, List.length_append, List.length_cons]; omega
theorem psg_back {g : Sg} (h : vsgB nmB g = true) (hl : (tsgL g).length ≤ 65536) : psgF (bs (tsgL g)) = (g, (0, 0), 0) := by
  obtain ⟨l', e, h1, h2, h3⟩ := lex_all (wdF iR) (sgP g) (sg_pc iR g h) (by rw [pTx_sg]; exact hl)
  rw [sg_k iR g h] at h3
  rw [pTx_sg] at h1
  have hs := seg_tail (e := e) h3
  have he := (seg_all (e := e) h3).2
  have hL : (l' ++ [e]).length = (g.1.flatMap soK).length + (g.2.flatMap dcK).length + 1 := by
    rw [List.length_append, List.length_singleton, ← List.length_append, ← h3, List.length_map]
  have f1 := flatK_len soK (fun x => by show 0 < 2; decide) g.1
  have f2 := flatK_len dcK (fun x => by unfold dcK; simp) g.2
  rw [List.append_assoc] at hs
  have hs2 := hs.right
  rw [Nat.zero_add] at hs2
  have hend : ∀ s, isB (tk (l' ++ [e]) ((g.1.flatMap soK).length + (g.2.flatMap dcK).length)) s = false := fun s => by
    rw [← List.length_append, he]
    unfold isB
    rw [h2]; rfl
  have hop : isB (tk (l' ++ [e]) (g.1.flatMap soK).length) wSort = false := by
    cases hg : g.2 with
    | nil => have := hend wSort; rw [hg] at this; exact this
    | cons d r =>
      rw [hg, List.flatMap_cons, List.append_assoc] at hs2
      obtain ⟨k1, k2, _⟩ := Seg.head (a := (3, wOp)) hs2
      unfold isB
      rw [k2, show decide (wOp = wSort) = false by decide, Bool.and_false]
  have p1 := pM_back (el := pN (l' ++ [e])) (kw := wSort) (kf := soK) g.1 [] (l' ++ [e]).length 0 _ (fun x hx i B hB => by
    obtain ⟨k1, k2, k3⟩ := Seg.head (a := (3, wSort)) (B := (1, x) :: B) hB
    exact ⟨by unfold isB; rw [k1, k2]; decide, pN_back k3⟩) hs (by rw [Nat.zero_add]; exact hop) (by omega)
  have p2 := pM_back (el := pD (l' ++ [e])) (kw := wOp) (kf := dcK) g.2 [] (l' ++ [e]).length (g.1.flatMap soK).length _ (fun x hx i B hB => by
    obtain ⟨k1, k2, k3⟩ := Seg.head (a := (3, wOp)) hB
    refine ⟨by unfold isB; rw [k1, k2]; decide, ?_⟩
    rw [pD_back x (i + 1) B k3]
    congr 1
    unfold dcK
    simp only [List.length_cons, List.length_append, List.length_nil]
    omega) hs2 (hend wOp) (by omega)
  rw [Nat.zero_add, List.nil_append] at p1
  rw [List.nil_append] at p2
  have hp : pG (l' ++ [e]) = .ok g ((g.1.flatMap soK).length + (g.2.flatMap dcK).length) := by
    unfold pG
    rw [p1]
    simp only
    rw [p2]
  rw [List.length_append] at he
  unfold psgF
  rw [h1]
  simp only [hp, he, h2, h]
  simp

end Go.Proofs.YtjjaknmnhhfjeaaGreatDoor
