/-
  DERIVED. GIVEN WITH THE SEED: THE CARDS: each row of YtjjaknmnhhfjeaaGreatDoorRows.lean that lists a variable, with what it lists TIED to the program's text (the seventh form; the later family's looks); each row that meets fmt, with fmt's text TOLD by the authors' own Lean function (tested against real Go, not proved from fmt's source: count such statements apart). THE CARD IS WHAT COUNTS. Prove the row's statement (the work); the ties are given (YtjjaknmnhhfjeaaGreatDoorTie.lean); close each card by the builder's one call (the guide's Derived/Test/ToyasCard.lean, 'card_holds'). Laid BY PROGRAM, IN A SANDBOX (cutbox-door.mjs). By AI agents, Wed Nov 11 2026. No macro, syntax, notation, axiom, sorry.
-/
import Derived.Test.YtjjaknmnhhfjeaaGreatDoorRows
import GoSem.ClaimSeven
namespace Go.Proofs.YtjjaknmnhhfjeaaGreatDoor
namespace Rows

/-- THE TIED CARD OF 'heartwoodlaw02.TermPaths'. -/
def termPathsCard : Claim7 := { stood := { row := termPathsRow, standIns := [], harness := (true, "d02b9a92ecbc07acf11346cb05599a43fc3a6fef05d6b17363aab3a4a0b79fc1"), looks := true }, kinds := [], alts := [], laidByText := true, laidKinds := [.data, .data, .data, .sentinel, .sentinel, .listed, .data], laidTests := true, laidLooks := .later }
def TermPathsCardSaid : Prop := Claim7.holds Tryz.pinned (.plain (OpenSpec.ofChange termPathsSpec)) termPathsCard

/-- THE TIED CARD OF 'heartwoodlaw02.TermSignatures'. -/
def termSignaturesCard : Claim7 := { stood := { row := termSignaturesRow, standIns := [], harness := (true, "d02b9a92ecbc07acf11346cb05599a43fc3a6fef05d6b17363aab3a4a0b79fc1"), looks := true }, kinds := [], alts := [], laidByText := true, laidKinds := [.data, .data, .data, .sentinel, .sentinel, .listed, .data], laidTests := true, laidLooks := .later }
def TermSignaturesCardSaid : Prop := Claim7.holds Tryz.pinned (.plain (OpenSpec.ofChange termSignaturesSpec)) termSignaturesCard

/-- THE TIED CARD OF 'heartwoodlaw02.TermTexts'. -/
def termTextsCard : Claim7 := { stood := { row := termTextsRow, standIns := [], harness := (true, "d02b9a92ecbc07acf11346cb05599a43fc3a6fef05d6b17363aab3a4a0b79fc1"), looks := true }, kinds := [], alts := [], laidByText := true, laidKinds := [.data, .data, .data, .sentinel, .sentinel, .listed, .data], laidTests := true, laidLooks := .later }
def TermTextsCardSaid : Prop := Claim7.holds Tryz.pinned (.plain (OpenSpec.ofChange termTextsSpec)) termTextsCard

/-- THE TIED CARD OF 'heartwoodlaw02.TermPuts'. -/
def termPutsCard : Claim7 := { stood := { row := termPutsRow, standIns := [], harness := (true, "d02b9a92ecbc07acf11346cb05599a43fc3a6fef05d6b17363aab3a4a0b79fc1"), looks := true }, kinds := [], alts := [], laidByText := true, laidKinds := [.data, .data, .data, .sentinel, .sentinel, .listed, .data], laidTests := true, laidLooks := .later }
def TermPutsCardSaid : Prop := Claim7.holds Tryz.pinned (.plain (OpenSpec.ofChange termPutsSpec)) termPutsCard

/-- THE TIED CARD OF 'heartwoodlaw02.TermOrder'. -/
def termOrderCard : Claim7 := { stood := { row := termOrderRow, standIns := [], harness := (true, "d02b9a92ecbc07acf11346cb05599a43fc3a6fef05d6b17363aab3a4a0b79fc1"), looks := true }, kinds := [], alts := [], laidByText := true, laidKinds := [.data, .data, .data, .sentinel, .sentinel, .listed, .data], laidTests := true, laidLooks := .later }
def TermOrderCardSaid : Prop := Claim7.holds Tryz.pinned (.plain (OpenSpec.ofChange termOrderSpec)) termOrderCard

/-- THE TIED CARD OF 'heartwoodlaw02.TermForms'. -/
def termFormsCard : Claim7 := { stood := { row := termFormsRow, standIns := [], harness := (true, "d02b9a92ecbc07acf11346cb05599a43fc3a6fef05d6b17363aab3a4a0b79fc1"), looks := true }, kinds := [], alts := [], laidByText := true, laidKinds := [.data, .data, .data, .sentinel, .sentinel, .listed, .data], laidTests := true, laidLooks := .later }
def TermFormsCardSaid : Prop := Claim7.holds Tryz.pinned (.plain (OpenSpec.ofChange termFormsSpec)) termFormsCard

/-- THE SECOND FORM's CARD OF 'heartwoodlaw02.TermPaths'. -/
def termPathsUptoCard : Claim7 := { stood := { row := termPathsUptoRow, standIns := [], harness := (true, "d02b9a92ecbc07acf11346cb05599a43fc3a6fef05d6b17363aab3a4a0b79fc1"), looks := true }, kinds := [], alts := [], laidByText := true, laidKinds := [.data, .data, .data, .sentinel, .sentinel, .listed, .data], laidTests := true, laidLooks := .later }
def TermPathsUptoCardSaid : Prop := Claim7.holds Tryz.pinned (.plain (OpenSpec.upto termPathsSpec)) termPathsUptoCard

/-- THE SECOND FORM's CARD OF 'heartwoodlaw02.TermSignatures'. -/
def termSignaturesUptoCard : Claim7 := { stood := { row := termSignaturesUptoRow, standIns := [], harness := (true, "d02b9a92ecbc07acf11346cb05599a43fc3a6fef05d6b17363aab3a4a0b79fc1"), looks := true }, kinds := [], alts := [], laidByText := true, laidKinds := [.data, .data, .data, .sentinel, .sentinel, .listed, .data], laidTests := true, laidLooks := .later }
def TermSignaturesUptoCardSaid : Prop := Claim7.holds Tryz.pinned (.plain (OpenSpec.upto termSignaturesSpec)) termSignaturesUptoCard

/-- THE SECOND FORM's CARD OF 'heartwoodlaw02.TermTexts'. -/
def termTextsUptoCard : Claim7 := { stood := { row := termTextsUptoRow, standIns := [], harness := (true, "d02b9a92ecbc07acf11346cb05599a43fc3a6fef05d6b17363aab3a4a0b79fc1"), looks := true }, kinds := [], alts := [], laidByText := true, laidKinds := [.data, .data, .data, .sentinel, .sentinel, .listed, .data], laidTests := true, laidLooks := .later }
def TermTextsUptoCardSaid : Prop := Claim7.holds Tryz.pinned (.plain (OpenSpec.upto termTextsSpec)) termTextsUptoCard

/-- THE SECOND FORM's CARD OF 'heartwoodlaw02.TermPuts'. -/
def termPutsUptoCard : Claim7 := { stood := { row := termPutsUptoRow, standIns := [], harness := (true, "d02b9a92ecbc07acf11346cb05599a43fc3a6fef05d6b17363aab3a4a0b79fc1"), looks := true }, kinds := [], alts := [], laidByText := true, laidKinds := [.data, .data, .data, .sentinel, .sentinel, .listed, .data], laidTests := true, laidLooks := .later }
def TermPutsUptoCardSaid : Prop := Claim7.holds Tryz.pinned (.plain (OpenSpec.upto termPutsSpec)) termPutsUptoCard

/-- THE SECOND FORM's CARD OF 'heartwoodlaw02.TermOrder'. -/
def termOrderUptoCard : Claim7 := { stood := { row := termOrderUptoRow, standIns := [], harness := (true, "d02b9a92ecbc07acf11346cb05599a43fc3a6fef05d6b17363aab3a4a0b79fc1"), looks := true }, kinds := [], alts := [], laidByText := true, laidKinds := [.data, .data, .data, .sentinel, .sentinel, .listed, .data], laidTests := true, laidLooks := .later }
def TermOrderUptoCardSaid : Prop := Claim7.holds Tryz.pinned (.plain (OpenSpec.upto termOrderSpec)) termOrderUptoCard

/-- THE SECOND FORM's CARD OF 'heartwoodlaw02.TermForms'. -/
def termFormsUptoCard : Claim7 := { stood := { row := termFormsUptoRow, standIns := [], harness := (true, "d02b9a92ecbc07acf11346cb05599a43fc3a6fef05d6b17363aab3a4a0b79fc1"), looks := true }, kinds := [], alts := [], laidByText := true, laidKinds := [.data, .data, .data, .sentinel, .sentinel, .listed, .data], laidTests := true, laidLooks := .later }
def TermFormsUptoCardSaid : Prop := Claim7.holds Tryz.pinned (.plain (OpenSpec.upto termFormsSpec)) termFormsUptoCard
end Rows
end Go.Proofs.YtjjaknmnhhfjeaaGreatDoor
