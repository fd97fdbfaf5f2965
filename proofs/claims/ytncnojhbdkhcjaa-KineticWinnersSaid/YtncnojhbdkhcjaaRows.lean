/-
  No cell of these rows narrows 'for every input' (looked for: loops, veiled, ifaces, maps, wideKeys, modest, calm, conditions, laid).
  DERIVED. THE GIVEN ROWS OF THIS SEAT. 6 by the template 'for every input the law returns true; each argument reads behind the call as it read before'; 0 by the template 'total and deterministic' (their statements: YtncnojhbdkhcjaaTotals.lean).
  GIVEN WITH THE SEED: the statements are not yours to turn. If you find one false, say at which input.
  Laid BY PROGRAM, IN A SANDBOX (cutbox-rows.mjs): the forced cells as the released guide's own fill.sh prints them over the translation 23476f263d0a8acb… (all of the seat's roots in one cut). By AI agents, Wed Nov 11 2026. No macro, syntax, notation, axiom, sorry.
-/
import Derived.Test.YtncnojhbdkhcjaaChecked
import GoSem.Claim
import GoSem.ClaimJoined
import GoSem.ClaimMapViews
import Derived.JoinedTies
import Derived.KernelRfl
namespace Go.Proofs.Ytncnojhbdkhcjaa
/- THE CELL 'sum', in the pinned program and in every row, IS THE sha256 OF THE DUMP (.gsa) THAT YtncnojhbdkhcjaaProg.lean LOADS. Nothing in Lean hashes anything: it is a label: what it is worth is what the hold of that sum in a sandbox is worth. -/
noncomputable def Try.pinned : Pinned := { name := "ytncnojhbdkhcjaa", sum := "23476f263d0a8acb20e4ba6fb43f3fbc20b439565d8d93923fb1227acd52a5f9", checked := Try.checked }
namespace Rows
def none {H : Type} : Left H := { results := [], args := [] }

/-- 'heartwoodlaw34.KineticForms': WHATEVER THE INPUT: true; the input reads as it did. -/
def kineticFormsSpec : ChangeSpec := { name := "kineticForms", fn := fun _ => fun
  | [d1, d2, d3, d4] => { results := [.lit (.bool true)], args := [d1, d2, d3, d4] }
  | _ => none }
def kineticFormsRow : OpenClaim := { program := "ytncnojhbdkhcjaa", sum := "23476f263d0a8acb20e4ba6fb43f3fbc20b439565d8d93923fb1227acd52a5f9", func := "heartwood/heartwoodlaw34.KineticForms", spec := "kineticForms", unfollowed := true, recurses := true, apart := false }
def KineticFormsSaid : Prop := kineticFormsRow.holds Try.pinned (OpenSpec.ofChange kineticFormsSpec)

/-- ITS FALSE NEIGHBOUR: 'it returns false'. Refute it at one input. -/
def kineticFormsWrong : ChangeSpec := { name := "kineticForms", fn := fun _ => fun
  | [d1, d2, d3, d4] => { results := [.lit (.bool false)], args := [d1, d2, d3, d4] }
  | _ => none }
def KineticFormsWrongFalsely : Prop := kineticFormsRow.holds Try.pinned (OpenSpec.ofChange kineticFormsWrong)

/-- 'heartwoodlaw34.KineticPlays': WHATEVER THE INPUT: true; the input reads as it did. -/
def kineticPlaysSpec : ChangeSpec := { name := "kineticPlays", fn := fun _ => fun
  | [d1, d2] => { results := [.lit (.bool true)], args := [d1, d2] }
  | _ => none }
def kineticPlaysRow : OpenClaim := { program := "ytncnojhbdkhcjaa", sum := "23476f263d0a8acb20e4ba6fb43f3fbc20b439565d8d93923fb1227acd52a5f9", func := "heartwood/heartwoodlaw34.KineticPlays", spec := "kineticPlays", unfollowed := true, recurses := true, apart := false }
def KineticPlaysSaid : Prop := kineticPlaysRow.holds Try.pinned (OpenSpec.ofChange kineticPlaysSpec)

/-- ITS FALSE NEIGHBOUR: 'it returns false'. Refute it at one input. -/
def kineticPlaysWrong : ChangeSpec := { name := "kineticPlays", fn := fun _ => fun
  | [d1, d2] => { results := [.lit (.bool false)], args := [d1, d2] }
  | _ => none }
def KineticPlaysWrongFalsely : Prop := kineticPlaysRow.holds Try.pinned (OpenSpec.ofChange kineticPlaysWrong)

/-- 'heartwoodlaw34.KineticSwaps': WHATEVER THE INPUT: true; the input reads as it did. -/
def kineticSwapsSpec : ChangeSpec := { name := "kineticSwaps", fn := fun _ => fun
  | [d1, d2, d3] => { results := [.lit (.bool true)], args := [d1, d2, d3] }
  | _ => none }
def kineticSwapsRow : OpenClaim := { program := "ytncnojhbdkhcjaa", sum := "23476f263d0a8acb20e4ba6fb43f3fbc20b439565d8d93923fb1227acd52a5f9", func := "heartwood/heartwoodlaw34.KineticSwaps", spec := "kineticSwaps", unfollowed := true, recurses := true, apart := false }
def KineticSwapsSaid : Prop := kineticSwapsRow.holds Try.pinned (OpenSpec.ofChange kineticSwapsSpec)

/-- ITS FALSE NEIGHBOUR: 'it returns false'. Refute it at one input. -/
def kineticSwapsWrong : ChangeSpec := { name := "kineticSwaps", fn := fun _ => fun
  | [d1, d2, d3] => { results := [.lit (.bool false)], args := [d1, d2, d3] }
  | _ => none }
def KineticSwapsWrongFalsely : Prop := kineticSwapsRow.holds Try.pinned (OpenSpec.ofChange kineticSwapsWrong)

/-- 'heartwoodlaw34.KineticWinners': WHATEVER THE INPUT: true; the input reads as it did. -/
def kineticWinnersSpec : ChangeSpec := { name := "kineticWinners", fn := fun _ => fun
  | [d1, d2] => { results := [.lit (.bool true)], args := [d1, d2] }
  | _ => none }
def kineticWinnersRow : OpenClaim := { program := "ytncnojhbdkhcjaa", sum := "23476f263d0a8acb20e4ba6fb43f3fbc20b439565d8d93923fb1227acd52a5f9", func := "heartwood/heartwoodlaw34.KineticWinners", spec := "kineticWinners", unfollowed := true, recurses := true, apart := false }
def KineticWinnersSaid : Prop := kineticWinnersRow.holds Try.pinned (OpenSpec.ofChange kineticWinnersSpec)

/-- ITS FALSE NEIGHBOUR: 'it returns false'. Refute it at one input. -/
def kineticWinnersWrong : ChangeSpec := { name := "kineticWinners", fn := fun _ => fun
  | [d1, d2] => { results := [.lit (.bool false)], args := [d1, d2] }
  | _ => none }
def KineticWinnersWrongFalsely : Prop := kineticWinnersRow.holds Try.pinned (OpenSpec.ofChange kineticWinnersWrong)

/-- 'heartwoodlaw34.KineticLast': WHATEVER THE INPUT: true; the input reads as it did. -/
def kineticLastSpec : ChangeSpec := { name := "kineticLast", fn := fun _ => fun
  | [d1, d2, d3] => { results := [.lit (.bool true)], args := [d1, d2, d3] }
  | _ => none }
def kineticLastRow : OpenClaim := { program := "ytncnojhbdkhcjaa", sum := "23476f263d0a8acb20e4ba6fb43f3fbc20b439565d8d93923fb1227acd52a5f9", func := "heartwood/heartwoodlaw34.KineticLast", spec := "kineticLast", unfollowed := true, recurses := true, apart := false }
def KineticLastSaid : Prop := kineticLastRow.holds Try.pinned (OpenSpec.ofChange kineticLastSpec)

/-- ITS FALSE NEIGHBOUR: 'it returns false'. Refute it at one input. -/
def kineticLastWrong : ChangeSpec := { name := "kineticLast", fn := fun _ => fun
  | [d1, d2, d3] => { results := [.lit (.bool false)], args := [d1, d2, d3] }
  | _ => none }
def KineticLastWrongFalsely : Prop := kineticLastRow.holds Try.pinned (OpenSpec.ofChange kineticLastWrong)

/-- 'heartwoodlaw34.KineticNone': WHATEVER THE INPUT: true; the input reads as it did. -/
def kineticNoneSpec : ChangeSpec := { name := "kineticNone", fn := fun _ => fun
  | [d1, d2] => { results := [.lit (.bool true)], args := [d1, d2] }
  | _ => none }
def kineticNoneRow : OpenClaim := { program := "ytncnojhbdkhcjaa", sum := "23476f263d0a8acb20e4ba6fb43f3fbc20b439565d8d93923fb1227acd52a5f9", func := "heartwood/heartwoodlaw34.KineticNone", spec := "kineticNone", unfollowed := true, recurses := true, apart := false }
def KineticNoneSaid : Prop := kineticNoneRow.holds Try.pinned (OpenSpec.ofChange kineticNoneSpec)

/-- ITS FALSE NEIGHBOUR: 'it returns false'. Refute it at one input. -/
def kineticNoneWrong : ChangeSpec := { name := "kineticNone", fn := fun _ => fun
  | [d1, d2] => { results := [.lit (.bool false)], args := [d1, d2] }
  | _ => none }
def KineticNoneWrongFalsely : Prop := kineticNoneRow.holds Try.pinned (OpenSpec.ofChange kineticNoneWrong)

/- THE SECOND FORM. 'bulk': how many values and letters a reading holds, each counted each time it is reached (what is shared counts as often as it is met; a slice's spare places count too). A statement '..UptoSaid' is the law's where the arguments, and the package variables that the reading takes, are together of bulk at most 1048576: NARROWER than '..Said'. Prove '..Said' where nothing that the law and all that it calls make is longer than what came in: it says more and counts as full. Else prove '..UptoSaid'. A law counts once. -/
mutual
def uptoBulk {H : Type} : DataW H → Nat
  | .lit (.string bytes) => bytes.length + 1
  | .lit _ => 1
  | .nil => 1
  | .ptr d => uptoBulk d + 1
  | .slice elems spare => uptoBulkAll elems + uptoBulkAll spare + 1
  | .agg parts => uptoBulkAll parts + 1
  | .iface _ d => uptoBulk d + 1
  | .map entries => uptoBulkEntries entries + 1
  | .held _ => 1
def uptoBulkAll {H : Type} : List (DataW H) → Nat
  | [] => 0
  | d :: r => uptoBulk d + uptoBulkAll r
def uptoBulkEntries {H : Type} : List (Lit × DataW H) → Nat
  | [] => 0
  | x :: r => uptoBulkEntry x + uptoBulkEntries r
def uptoBulkEntry {H : Type} : Lit × DataW H → Nat
  | (.string bytes, d) => bytes.length + uptoBulk d + 1
  | (_, d) => uptoBulk d + 1
 end
def uptoSmall : (H : Type) → List (DataW H) → Bool := fun _ ds => decide (uptoBulkAll ds ≤ 1048576)
def OpenSpec.upto (s : _root_.Go.ChangeSpec) : _root_.Go.OpenSpec := { _root_.Go.OpenSpec.ofChange s with cond := some uptoSmall }

/-- 'heartwoodlaw34.KineticForms', WHERE WHAT IT READS IS OF BULK AT MOST 1048576: true; the input reads as it did. -/
def kineticFormsUptoRow : OpenClaim := { program := "ytncnojhbdkhcjaa", sum := "23476f263d0a8acb20e4ba6fb43f3fbc20b439565d8d93923fb1227acd52a5f9", func := "heartwood/heartwoodlaw34.KineticForms", spec := "kineticForms", unfollowed := true, recurses := true, apart := false, narrowed := true }
def KineticFormsUptoSaid : Prop := kineticFormsUptoRow.holds Try.pinned (OpenSpec.upto kineticFormsSpec)

/-- 'heartwoodlaw34.KineticPlays', WHERE WHAT IT READS IS OF BULK AT MOST 1048576: true; the input reads as it did. -/
def kineticPlaysUptoRow : OpenClaim := { program := "ytncnojhbdkhcjaa", sum := "23476f263d0a8acb20e4ba6fb43f3fbc20b439565d8d93923fb1227acd52a5f9", func := "heartwood/heartwoodlaw34.KineticPlays", spec := "kineticPlays", unfollowed := true, recurses := true, apart := false, narrowed := true }
def KineticPlaysUptoSaid : Prop := kineticPlaysUptoRow.holds Try.pinned (OpenSpec.upto kineticPlaysSpec)

/-- 'heartwoodlaw34.KineticSwaps', WHERE WHAT IT READS IS OF BULK AT MOST 1048576: true; the input reads as it did. -/
def kineticSwapsUptoRow : OpenClaim := { program := "ytncnojhbdkhcjaa", sum := "23476f263d0a8acb20e4ba6fb43f3fbc20b439565d8d93923fb1227acd52a5f9", func := "heartwood/heartwoodlaw34.KineticSwaps", spec := "kineticSwaps", unfollowed := true, recurses := true, apart := false, narrowed := true }
def KineticSwapsUptoSaid : Prop := kineticSwapsUptoRow.holds Try.pinned (OpenSpec.upto kineticSwapsSpec)

/-- 'heartwoodlaw34.KineticWinners', WHERE WHAT IT READS IS OF BULK AT MOST 1048576: true; the input reads as it did. -/
def kineticWinnersUptoRow : OpenClaim := { program := "ytncnojhbdkhcjaa", sum := "23476f263d0a8acb20e4ba6fb43f3fbc20b439565d8d93923fb1227acd52a5f9", func := "heartwood/heartwoodlaw34.KineticWinners", spec := "kineticWinners", unfollowed := true, recurses := true, apart := false, narrowed := true }
def KineticWinnersUptoSaid : Prop := kineticWinnersUptoRow.holds Try.pinned (OpenSpec.upto kineticWinnersSpec)

/-- 'heartwoodlaw34.KineticLast', WHERE WHAT IT READS IS OF BULK AT MOST 1048576: true; the input reads as it did. -/
def kineticLastUptoRow : OpenClaim := { program := "ytncnojhbdkhcjaa", sum := "23476f263d0a8acb20e4ba6fb43f3fbc20b439565d8d93923fb1227acd52a5f9", func := "heartwood/heartwoodlaw34.KineticLast", spec := "kineticLast", unfollowed := true, recurses := true, apart := false, narrowed := true }
def KineticLastUptoSaid : Prop := kineticLastUptoRow.holds Try.pinned (OpenSpec.upto kineticLastSpec)

/-- 'heartwoodlaw34.KineticNone', WHERE WHAT IT READS IS OF BULK AT MOST 1048576: true; the input reads as it did. -/
def kineticNoneUptoRow : OpenClaim := { program := "ytncnojhbdkhcjaa", sum := "23476f263d0a8acb20e4ba6fb43f3fbc20b439565d8d93923fb1227acd52a5f9", func := "heartwood/heartwoodlaw34.KineticNone", spec := "kineticNone", unfollowed := true, recurses := true, apart := false, narrowed := true }
def KineticNoneUptoSaid : Prop := kineticNoneUptoRow.holds Try.pinned (OpenSpec.upto kineticNoneSpec)

end Rows
end Go.Proofs.Ytncnojhbdkhcjaa
