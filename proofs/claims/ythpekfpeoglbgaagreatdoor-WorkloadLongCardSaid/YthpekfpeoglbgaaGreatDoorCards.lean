/-
  DERIVED. GIVEN WITH THE SEED: THE CARDS: each row of YthpekfpeoglbgaaGreatDoorRows.lean that lists a variable, with what it lists TIED to the program's text (the seventh form; the later family's looks); each row that meets fmt, with fmt's text TOLD by the authors' own Lean function (tested against real Go, not proved from fmt's source: count such statements apart). THE CARD IS WHAT COUNTS. Prove the row's statement (the work); the ties are given (YthpekfpeoglbgaaGreatDoorTie.lean); close each card by the builder's one call (the guide's Derived/Test/ToyasCard.lean, 'card_holds'). Laid BY PROGRAM, IN A SANDBOX (cutbox-door.mjs). By AI agents, Wed Nov 11 2026. No macro, syntax, notation, axiom, sorry.
-/
import Derived.Test.YthpekfpeoglbgaaGreatDoorRows
import GoSem.ClaimSeven
namespace Go.Proofs.YthpekfpeoglbgaaGreatDoor
namespace Rows

/-- THE TIED CARD OF 'heartwoodlaw51.WorkloadParses'. -/
def workloadParsesCard : Claim7 := { stood := { row := workloadParsesRow, standIns := [], harness := (true, "f8c8eaabfbb67c852017cd8c0300e2643ccc81df4adc69bd37b8b7021c82491f"), looks := true }, kinds := [], alts := [], laidByText := true, laidKinds := [.data, .data, .data, .data, .sentinel, .sentinel, .pinned], laidTests := true, laidLooks := .later }
def WorkloadParsesCardSaid : Prop := Claim7.holds Tryz.pinned (.plain (OpenSpec.ofChange workloadParsesSpec)) workloadParsesCard

/-- THE TIED CARD OF 'heartwoodlaw51.WorkloadLong'. -/
def workloadLongCard : Claim7 := { stood := { row := workloadLongRow, standIns := [], harness := (true, "f8c8eaabfbb67c852017cd8c0300e2643ccc81df4adc69bd37b8b7021c82491f"), looks := true }, kinds := [], alts := [], laidByText := true, laidKinds := [.data, .data, .data, .data, .sentinel, .sentinel, .pinned], laidTests := true, laidLooks := .later }
def WorkloadLongCardSaid : Prop := Claim7.holds Tryz.pinned (.plain (OpenSpec.ofChange workloadLongSpec)) workloadLongCard

/-- THE TIED CARD OF 'heartwoodlaw51.WorkloadBack'. -/
def workloadBackCard : Claim7 := { stood := { row := workloadBackRow, standIns := [], harness := (true, "f8c8eaabfbb67c852017cd8c0300e2643ccc81df4adc69bd37b8b7021c82491f"), looks := true }, kinds := [], alts := [], laidByText := true, laidKinds := [.data, .data, .data, .data, .sentinel, .sentinel, .pinned], laidTests := true, laidLooks := .later }
def WorkloadBackCardSaid : Prop := Claim7.holds Tryz.pinned (.plain (OpenSpec.ofChange workloadBackSpec)) workloadBackCard

/-- THE SECOND FORM's CARD OF 'heartwoodlaw51.WorkloadParses'. -/
def workloadParsesUptoCard : Claim7 := { stood := { row := workloadParsesUptoRow, standIns := [], harness := (true, "f8c8eaabfbb67c852017cd8c0300e2643ccc81df4adc69bd37b8b7021c82491f"), looks := true }, kinds := [], alts := [], laidByText := true, laidKinds := [.data, .data, .data, .data, .sentinel, .sentinel, .pinned], laidTests := true, laidLooks := .later }
def WorkloadParsesUptoCardSaid : Prop := Claim7.holds Tryz.pinned (.plain (OpenSpec.upto workloadParsesSpec)) workloadParsesUptoCard

/-- THE SECOND FORM's CARD OF 'heartwoodlaw51.WorkloadLong'. -/
def workloadLongUptoCard : Claim7 := { stood := { row := workloadLongUptoRow, standIns := [], harness := (true, "f8c8eaabfbb67c852017cd8c0300e2643ccc81df4adc69bd37b8b7021c82491f"), looks := true }, kinds := [], alts := [], laidByText := true, laidKinds := [.data, .data, .data, .data, .sentinel, .sentinel, .pinned], laidTests := true, laidLooks := .later }
def WorkloadLongUptoCardSaid : Prop := Claim7.holds Tryz.pinned (.plain (OpenSpec.upto workloadLongSpec)) workloadLongUptoCard

/-- THE SECOND FORM's CARD OF 'heartwoodlaw51.WorkloadBack'. -/
def workloadBackUptoCard : Claim7 := { stood := { row := workloadBackUptoRow, standIns := [], harness := (true, "f8c8eaabfbb67c852017cd8c0300e2643ccc81df4adc69bd37b8b7021c82491f"), looks := true }, kinds := [], alts := [], laidByText := true, laidKinds := [.data, .data, .data, .data, .sentinel, .sentinel, .pinned], laidTests := true, laidLooks := .later }
def WorkloadBackUptoCardSaid : Prop := Claim7.holds Tryz.pinned (.plain (OpenSpec.upto workloadBackSpec)) workloadBackUptoCard
end Rows
end Go.Proofs.YthpekfpeoglbgaaGreatDoor
