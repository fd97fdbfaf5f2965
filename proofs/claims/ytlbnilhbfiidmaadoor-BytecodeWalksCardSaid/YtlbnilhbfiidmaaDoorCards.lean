/-
  DERIVED. GIVEN WITH THE SEED: THE CARDS: each row of YtlbnilhbfiidmaaDoorRows.lean that lists a variable, with what it lists TIED to the program's text (the seventh form; the later family's looks); each row that meets fmt, with fmt's text TOLD by the authors' own Lean function (tested against real Go, not proved from fmt's source: count such statements apart). THE CARD IS WHAT COUNTS. Prove the row's statement (the work); the ties are given (YtlbnilhbfiidmaaDoorTie.lean); close each card by the builder's one call (the guide's Derived/Test/ToyasCard.lean, 'card_holds'). Laid BY PROGRAM, IN A SANDBOX (cutbox-door.mjs). By AI agents, Wed Nov 11 2026. No macro, syntax, notation, axiom, sorry.
-/
import Derived.Test.YtlbnilhbfiidmaaDoorRows
import GoSem.ClaimSeven
namespace Go.Proofs.YtlbnilhbfiidmaaDoor
namespace Rows

/-- THE TIED CARD OF 'heartwoodlaw14.BytecodeChecks'. -/
def bytecodeChecksCard : Claim7 := { stood := { row := bytecodeChecksRow, standIns := [], harness := (true, "08e37caab0ba1217cb7a319bd41c9feb757639d5a8c33b5ba848a2caaa68e187"), looks := false }, kinds := [], alts := [], laidByText := true, laidKinds := [.data, .listed, .data], laidTests := true, laidLooks := .later }
def BytecodeChecksCardSaid : Prop := Claim7.holds Tryd.pinned (.plain (OpenSpec.ofChange bytecodeChecksSpec)) bytecodeChecksCard

/-- THE TIED CARD OF 'heartwoodlaw14.BytecodeWalks'. -/
def bytecodeWalksCard : Claim7 := { stood := { row := bytecodeWalksRow, standIns := [], harness := (true, "08e37caab0ba1217cb7a319bd41c9feb757639d5a8c33b5ba848a2caaa68e187"), looks := false }, kinds := [], alts := [], laidByText := true, laidKinds := [.data, .listed, .data], laidTests := true, laidLooks := .later }
def BytecodeWalksCardSaid : Prop := Claim7.holds Tryd.pinned (.plain (OpenSpec.ofChange bytecodeWalksSpec)) bytecodeWalksCard

/-- THE SECOND FORM's CARD OF 'heartwoodlaw14.BytecodeChecks'. -/
def bytecodeChecksUptoCard : Claim7 := { stood := { row := bytecodeChecksUptoRow, standIns := [], harness := (true, "08e37caab0ba1217cb7a319bd41c9feb757639d5a8c33b5ba848a2caaa68e187"), looks := false }, kinds := [], alts := [], laidByText := true, laidKinds := [.data, .listed, .data], laidTests := true, laidLooks := .later }
def BytecodeChecksUptoCardSaid : Prop := Claim7.holds Tryd.pinned (.plain (OpenSpec.upto bytecodeChecksSpec)) bytecodeChecksUptoCard

/-- THE SECOND FORM's CARD OF 'heartwoodlaw14.BytecodeWalks'. -/
def bytecodeWalksUptoCard : Claim7 := { stood := { row := bytecodeWalksUptoRow, standIns := [], harness := (true, "08e37caab0ba1217cb7a319bd41c9feb757639d5a8c33b5ba848a2caaa68e187"), looks := false }, kinds := [], alts := [], laidByText := true, laidKinds := [.data, .listed, .data], laidTests := true, laidLooks := .later }
def BytecodeWalksUptoCardSaid : Prop := Claim7.holds Tryd.pinned (.plain (OpenSpec.upto bytecodeWalksSpec)) bytecodeWalksUptoCard
end Rows
end Go.Proofs.YtlbnilhbfiidmaaDoor
