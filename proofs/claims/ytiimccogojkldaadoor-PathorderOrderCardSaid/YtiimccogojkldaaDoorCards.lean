/-
  DERIVED. GIVEN WITH THE SEED: THE CARDS: each row of YtiimccogojkldaaDoorRows.lean that lists a variable, with what it lists TIED to the program's text (the seventh form; the later family's looks); each row that meets fmt, with fmt's text TOLD by the authors' own Lean function (tested against real Go, not proved from fmt's source: count such statements apart). THE CARD IS WHAT COUNTS. Prove the row's statement (the work); the ties are given (YtiimccogojkldaaDoorTie.lean); close each card by the builder's one call (the guide's Derived/Test/ToyasCard.lean, 'card_holds'). Laid BY PROGRAM, IN A SANDBOX (cutbox-door.mjs). By AI agents, Wed Nov 11 2026. No macro, syntax, notation, axiom, sorry.
-/
import Derived.Test.YtiimccogojkldaaDoorRows
import GoSem.ClaimSeven
namespace Go.Proofs.YtiimccogojkldaaDoor
namespace Rows

/-- THE TIED CARD OF 'heartwoodlaw08.PathorderOrder'. -/
def pathorderOrderCard : Claim7 := { stood := { row := pathorderOrderRow, standIns := [], harness := (true, "7028d93e6a6f8cde9a3edbfd4dd4feea5aff1ce69233fd35aa76849e4aa759d8"), looks := false }, kinds := [], alts := [], laidByText := true, laidKinds := [.data, .data, .data, .listed, .data], laidTests := true, laidLooks := .later }
def PathorderOrderCardSaid : Prop := Claim7.holds Tryd.pinned (.plain (OpenSpec.ofChange pathorderOrderSpec)) pathorderOrderCard

/-- THE SECOND FORM's CARD OF 'heartwoodlaw08.PathorderOrder'. -/
def pathorderOrderUptoCard : Claim7 := { stood := { row := pathorderOrderUptoRow, standIns := [], harness := (true, "7028d93e6a6f8cde9a3edbfd4dd4feea5aff1ce69233fd35aa76849e4aa759d8"), looks := false }, kinds := [], alts := [], laidByText := true, laidKinds := [.data, .data, .data, .listed, .data], laidTests := true, laidLooks := .later }
def PathorderOrderUptoCardSaid : Prop := Claim7.holds Tryd.pinned (.plain (OpenSpec.upto pathorderOrderSpec)) pathorderOrderUptoCard
end Rows
end Go.Proofs.YtiimccogojkldaaDoor
