/-
  DERIVED. GIVEN WITH THE SEED: THE CARDS: each row of YthpekfpeoglbgaaDoorRows.lean that lists a variable, with what it lists TIED to the program's text (the seventh form; the later family's looks); each row that meets fmt, with fmt's text TOLD by the authors' own Lean function (tested against real Go, not proved from fmt's source: count such statements apart). THE CARD IS WHAT COUNTS. Prove the row's statement (the work); the ties are given (YthpekfpeoglbgaaDoorTie.lean); close each card by the builder's one call (the guide's Derived/Test/ToyasCard.lean, 'card_holds'). Laid BY PROGRAM, IN A SANDBOX (cutbox-door.mjs). By AI agents, Wed Nov 11 2026. No macro, syntax, notation, axiom, sorry.
-/
import Derived.Test.YthpekfpeoglbgaaDoorRows
import GoSem.ClaimSeven
namespace Go.Proofs.YthpekfpeoglbgaaDoor
namespace Rows

/-- THE TIED CARD OF 'heartwoodlaw51.WorkloadTexts'. -/
def workloadTextsCard : Claim7 := { stood := { row := workloadTextsRow, standIns := [], harness := (true, "566780d8c36580646b88f65c8e59e4bc9247bf3d0628619cdb068e4109224ce3"), looks := false }, kinds := [], alts := [], laidByText := true, laidKinds := [.data, .data, .data], laidTests := true, laidLooks := .later }
def WorkloadTextsCardSaid : Prop := Claim7.holds Tryd.pinned (.plain (OpenSpec.ofChange workloadTextsSpec)) workloadTextsCard

/-- THE SECOND FORM's CARD OF 'heartwoodlaw51.WorkloadTexts'. -/
def workloadTextsUptoCard : Claim7 := { stood := { row := workloadTextsUptoRow, standIns := [], harness := (true, "566780d8c36580646b88f65c8e59e4bc9247bf3d0628619cdb068e4109224ce3"), looks := false }, kinds := [], alts := [], laidByText := true, laidKinds := [.data, .data, .data], laidTests := true, laidLooks := .later }
def WorkloadTextsUptoCardSaid : Prop := Claim7.holds Tryd.pinned (.plain (OpenSpec.upto workloadTextsSpec)) workloadTextsUptoCard
end Rows
end Go.Proofs.YthpekfpeoglbgaaDoor
