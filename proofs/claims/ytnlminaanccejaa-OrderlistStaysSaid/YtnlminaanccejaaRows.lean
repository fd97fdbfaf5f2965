/-
  No cell of these rows narrows 'for every input' (looked for: loops, veiled, ifaces, maps, wideKeys, modest, calm, conditions, laid).
  DERIVED. THE GIVEN ROWS OF THIS SEAT. 6 by the template 'for every input the law returns true; each argument reads behind the call as it read before'; 0 by the template 'total and deterministic' (their statements: YtnlminaanccejaaTotals.lean).
  GIVEN WITH THE SEED: the statements are not yours to turn. If you find one false, say at which input.
  Laid BY PROGRAM, IN A SANDBOX (cutbox-rows.mjs): the forced cells as the released guide's own fill.sh prints them over the translation f661b05dff1fde04… (all of the seat's roots in one cut). By AI agents, Wed Nov 11 2026. No macro, syntax, notation, axiom, sorry.
-/
import Derived.Test.YtnlminaanccejaaChecked
import GoSem.Claim
import GoSem.ClaimJoined
import GoSem.ClaimMapViews
import Derived.JoinedTies
import Derived.KernelRfl
namespace Go.Proofs.Ytnlminaanccejaa
/- THE CELL 'sum', in the pinned program and in every row, IS THE sha256 OF THE DUMP (.gsa) THAT YtnlminaanccejaaProg.lean LOADS. Nothing in Lean hashes anything: it is a label: what it is worth is what the hold of that sum in a sandbox is worth. -/
noncomputable def Try.pinned : Pinned := { name := "ytnlminaanccejaa", sum := "f661b05dff1fde04e582dfc438921894e2a01a06fbcf454e12af4d4fd9b75ae9", checked := Try.checked }
namespace Rows
def none {H : Type} : Left H := { results := [], args := [] }

/-- 'heartwoodlaw28.OrderlistPlays': WHATEVER THE INPUT: true; the input reads as it did. -/
def orderlistPlaysSpec : ChangeSpec := { name := "orderlistPlays", fn := fun _ => fun
  | [d1, d2] => { results := [.lit (.bool true)], args := [d1, d2] }
  | _ => none }
def orderlistPlaysRow : OpenClaim := { program := "ytnlminaanccejaa", sum := "f661b05dff1fde04e582dfc438921894e2a01a06fbcf454e12af4d4fd9b75ae9", func := "heartwood/heartwoodlaw28.OrderlistPlays", spec := "orderlistPlays", apart := false }
def OrderlistPlaysSaid : Prop := orderlistPlaysRow.holds Try.pinned (OpenSpec.ofChange orderlistPlaysSpec)

/-- ITS FALSE NEIGHBOUR: 'it returns false'. Refute it at one input. -/
def orderlistPlaysWrong : ChangeSpec := { name := "orderlistPlays", fn := fun _ => fun
  | [d1, d2] => { results := [.lit (.bool false)], args := [d1, d2] }
  | _ => none }
def OrderlistPlaysWrongFalsely : Prop := orderlistPlaysRow.holds Try.pinned (OpenSpec.ofChange orderlistPlaysWrong)

/-- 'heartwoodlaw28.OrderlistMoves': WHATEVER THE INPUT: true; the input reads as it did. -/
def orderlistMovesSpec : ChangeSpec := { name := "orderlistMoves", fn := fun _ => fun
  | [d1, d2, d3] => { results := [.lit (.bool true)], args := [d1, d2, d3] }
  | _ => none }
def orderlistMovesRow : OpenClaim := { program := "ytnlminaanccejaa", sum := "f661b05dff1fde04e582dfc438921894e2a01a06fbcf454e12af4d4fd9b75ae9", func := "heartwood/heartwoodlaw28.OrderlistMoves", spec := "orderlistMoves", apart := false }
def OrderlistMovesSaid : Prop := orderlistMovesRow.holds Try.pinned (OpenSpec.ofChange orderlistMovesSpec)

/-- ITS FALSE NEIGHBOUR: 'it returns false'. Refute it at one input. -/
def orderlistMovesWrong : ChangeSpec := { name := "orderlistMoves", fn := fun _ => fun
  | [d1, d2, d3] => { results := [.lit (.bool false)], args := [d1, d2, d3] }
  | _ => none }
def OrderlistMovesWrongFalsely : Prop := orderlistMovesRow.holds Try.pinned (OpenSpec.ofChange orderlistMovesWrong)

/-- 'heartwoodlaw28.OrderlistLabels': WHATEVER THE INPUT: true; the input reads as it did. -/
def orderlistLabelsSpec : ChangeSpec := { name := "orderlistLabels", fn := fun _ => fun
  | [d1, d2] => { results := [.lit (.bool true)], args := [d1, d2] }
  | _ => none }
def orderlistLabelsRow : OpenClaim := { program := "ytnlminaanccejaa", sum := "f661b05dff1fde04e582dfc438921894e2a01a06fbcf454e12af4d4fd9b75ae9", func := "heartwood/heartwoodlaw28.OrderlistLabels", spec := "orderlistLabels", apart := false }
def OrderlistLabelsSaid : Prop := orderlistLabelsRow.holds Try.pinned (OpenSpec.ofChange orderlistLabelsSpec)

/-- ITS FALSE NEIGHBOUR: 'it returns false'. Refute it at one input. -/
def orderlistLabelsWrong : ChangeSpec := { name := "orderlistLabels", fn := fun _ => fun
  | [d1, d2] => { results := [.lit (.bool false)], args := [d1, d2] }
  | _ => none }
def OrderlistLabelsWrongFalsely : Prop := orderlistLabelsRow.holds Try.pinned (OpenSpec.ofChange orderlistLabelsWrong)

/-- 'heartwoodlaw28.OrderlistStays': WHATEVER THE INPUT: true; the input reads as it did. -/
def orderlistStaysSpec : ChangeSpec := { name := "orderlistStays", fn := fun _ => fun
  | [d1, d2] => { results := [.lit (.bool true)], args := [d1, d2] }
  | _ => none }
def orderlistStaysRow : OpenClaim := { program := "ytnlminaanccejaa", sum := "f661b05dff1fde04e582dfc438921894e2a01a06fbcf454e12af4d4fd9b75ae9", func := "heartwood/heartwoodlaw28.OrderlistStays", spec := "orderlistStays", apart := false }
def OrderlistStaysSaid : Prop := orderlistStaysRow.holds Try.pinned (OpenSpec.ofChange orderlistStaysSpec)

/-- ITS FALSE NEIGHBOUR: 'it returns false'. Refute it at one input. -/
def orderlistStaysWrong : ChangeSpec := { name := "orderlistStays", fn := fun _ => fun
  | [d1, d2] => { results := [.lit (.bool false)], args := [d1, d2] }
  | _ => none }
def OrderlistStaysWrongFalsely : Prop := orderlistStaysRow.holds Try.pinned (OpenSpec.ofChange orderlistStaysWrong)

/-- 'heartwoodlaw28.OrderlistAsks': WHATEVER THE INPUT: true; the input reads as it did. -/
def orderlistAsksSpec : ChangeSpec := { name := "orderlistAsks", fn := fun _ => fun
  | [d1, d2, d3] => { results := [.lit (.bool true)], args := [d1, d2, d3] }
  | _ => none }
def orderlistAsksRow : OpenClaim := { program := "ytnlminaanccejaa", sum := "f661b05dff1fde04e582dfc438921894e2a01a06fbcf454e12af4d4fd9b75ae9", func := "heartwood/heartwoodlaw28.OrderlistAsks", spec := "orderlistAsks", apart := false }
def OrderlistAsksSaid : Prop := orderlistAsksRow.holds Try.pinned (OpenSpec.ofChange orderlistAsksSpec)

/-- ITS FALSE NEIGHBOUR: 'it returns false'. Refute it at one input. -/
def orderlistAsksWrong : ChangeSpec := { name := "orderlistAsks", fn := fun _ => fun
  | [d1, d2, d3] => { results := [.lit (.bool false)], args := [d1, d2, d3] }
  | _ => none }
def OrderlistAsksWrongFalsely : Prop := orderlistAsksRow.holds Try.pinned (OpenSpec.ofChange orderlistAsksWrong)

/-- 'heartwoodlaw28.OrderlistApart': WHATEVER THE INPUT: true; the input reads as it did. -/
def orderlistApartSpec : ChangeSpec := { name := "orderlistApart", fn := fun _ => fun
  | [d] => { results := [.lit (.bool true)], args := [d] }
  | _ => none }
def orderlistApartRow : OpenClaim := { program := "ytnlminaanccejaa", sum := "f661b05dff1fde04e582dfc438921894e2a01a06fbcf454e12af4d4fd9b75ae9", func := "heartwood/heartwoodlaw28.OrderlistApart", spec := "orderlistApart", apart := false }
def OrderlistApartSaid : Prop := orderlistApartRow.holds Try.pinned (OpenSpec.ofChange orderlistApartSpec)

/-- ITS FALSE NEIGHBOUR: 'it returns false'. Refute it at one input. -/
def orderlistApartWrong : ChangeSpec := { name := "orderlistApart", fn := fun _ => fun
  | [d] => { results := [.lit (.bool false)], args := [d] }
  | _ => none }
def OrderlistApartWrongFalsely : Prop := orderlistApartRow.holds Try.pinned (OpenSpec.ofChange orderlistApartWrong)

/- THE SECOND FORM. 'bulk': how many values and letters a reading holds, each counted each time it is reached (what is shared counts as often as it is met; a slice's spare places count too). A statement '..UptoSaid' is the law's where the arguments, and the package variables that the reading takes, are together of bulk at most 1048576: NARROWER than '..Said'. Prove '..Said' where nothing that the law and all that it calls make is longer than what came in: it says more and counts as full. Else prove '..UptoSaid'. A law counts once. -/
mutual
def uptoBulk {H : Type} : DataW H → Nat
  | .lit (.string bytes) => bytes.length + 1
  | .lit _ => 1
  | .nil => 1
  | .ptr d => uptoBulk d + 1
  | .slice elems spare => uptoBulkAll elems + uptoBulkAll spare + 1
  | .agg parts => uptoBulkAll parts + 1
  | .iface _ d => uptoBulk d + 1
  | .map entries => uptoBulkEntries entries + 1
  | .held _ => 1
def uptoBulkAll {H : Type} : List (DataW H) → Nat
  | [] => 0
  | d :: r => uptoBulk d + uptoBulkAll r
def uptoBulkEntries {H : Type} : List (Lit × DataW H) → Nat
  | [] => 0
  | x :: r => uptoBulkEntry x + uptoBulkEntries r
def uptoBulkEntry {H : Type} : Lit × DataW H → Nat
  | (.string bytes, d) => bytes.length + uptoBulk d + 1
  | (_, d) => uptoBulk d + 1
 end
def uptoSmall : (H : Type) → List (DataW H) → Bool := fun _ ds => decide (uptoBulkAll ds ≤ 1048576)
def OpenSpec.upto (s : _root_.Go.ChangeSpec) : _root_.Go.OpenSpec := { _root_.Go.OpenSpec.ofChange s with cond := some uptoSmall }

/-- 'heartwoodlaw28.OrderlistPlays', WHERE WHAT IT READS IS OF BULK AT MOST 1048576: true; the input reads as it did. -/
def orderlistPlaysUptoRow : OpenClaim := { program := "ytnlminaanccejaa", sum := "f661b05dff1fde04e582dfc438921894e2a01a06fbcf454e12af4d4fd9b75ae9", func := "heartwood/heartwoodlaw28.OrderlistPlays", spec := "orderlistPlays", apart := false, narrowed := true }
def OrderlistPlaysUptoSaid : Prop := orderlistPlaysUptoRow.holds Try.pinned (OpenSpec.upto orderlistPlaysSpec)

/-- 'heartwoodlaw28.OrderlistMoves', WHERE WHAT IT READS IS OF BULK AT MOST 1048576: true; the input reads as it did. -/
def orderlistMovesUptoRow : OpenClaim := { program := "ytnlminaanccejaa", sum := "f661b05dff1fde04e582dfc438921894e2a01a06fbcf454e12af4d4fd9b75ae9", func := "heartwood/heartwoodlaw28.OrderlistMoves", spec := "orderlistMoves", apart := false, narrowed := true }
def OrderlistMovesUptoSaid : Prop := orderlistMovesUptoRow.holds Try.pinned (OpenSpec.upto orderlistMovesSpec)

/-- 'heartwoodlaw28.OrderlistLabels', WHERE WHAT IT READS IS OF BULK AT MOST 1048576: true; the input reads as it did. -/
def orderlistLabelsUptoRow : OpenClaim := { program := "ytnlminaanccejaa", sum := "f661b05dff1fde04e582dfc438921894e2a01a06fbcf454e12af4d4fd9b75ae9", func := "heartwood/heartwoodlaw28.OrderlistLabels", spec := "orderlistLabels", apart := false, narrowed := true }
def OrderlistLabelsUptoSaid : Prop := orderlistLabelsUptoRow.holds Try.pinned (OpenSpec.upto orderlistLabelsSpec)

/-- 'heartwoodlaw28.OrderlistStays', WHERE WHAT IT READS IS OF BULK AT MOST 1048576: true; the input reads as it did. -/
def orderlistStaysUptoRow : OpenClaim := { program := "ytnlminaanccejaa", sum := "f661b05dff1fde04e582dfc438921894e2a01a06fbcf454e12af4d4fd9b75ae9", func := "heartwood/heartwoodlaw28.OrderlistStays", spec := "orderlistStays", apart := false, narrowed := true }
def OrderlistStaysUptoSaid : Prop := orderlistStaysUptoRow.holds Try.pinned (OpenSpec.upto orderlistStaysSpec)

/-- 'heartwoodlaw28.OrderlistAsks', WHERE WHAT IT READS IS OF BULK AT MOST 1048576: true; the input reads as it did. -/
def orderlistAsksUptoRow : OpenClaim := { program := "ytnlminaanccejaa", sum := "f661b05dff1fde04e582dfc438921894e2a01a06fbcf454e12af4d4fd9b75ae9", func := "heartwood/heartwoodlaw28.OrderlistAsks", spec := "orderlistAsks", apart := false, narrowed := true }
def OrderlistAsksUptoSaid : Prop := orderlistAsksUptoRow.holds Try.pinned (OpenSpec.upto orderlistAsksSpec)

/-- 'heartwoodlaw28.OrderlistApart', WHERE WHAT IT READS IS OF BULK AT MOST 1048576: true; the input reads as it did. -/
def orderlistApartUptoRow : OpenClaim := { program := "ytnlminaanccejaa", sum := "f661b05dff1fde04e582dfc438921894e2a01a06fbcf454e12af4d4fd9b75ae9", func := "heartwood/heartwoodlaw28.OrderlistApart", spec := "orderlistApart", apart := false, narrowed := true }
def OrderlistApartUptoSaid : Prop := orderlistApartUptoRow.holds Try.pinned (OpenSpec.upto orderlistApartSpec)

end Rows
end Go.Proofs.Ytnlminaanccejaa
