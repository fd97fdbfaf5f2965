/-
  DERIVED. GIVEN WITH THE SEED: THE CARDS: each row of YtlkcjmaiahnodaaGreatDoorRows.lean that lists a variable, with what it lists TIED to the program's text (the seventh form; the later family's looks); each row that meets fmt, with fmt's text TOLD by the authors' own Lean function (tested against real Go, not proved from fmt's source: count such statements apart). THE CARD IS WHAT COUNTS. Prove the row's statement (the work); the ties are given (YtlkcjmaiahnodaaGreatDoorTie.lean); close each card by the builder's one call (the guide's Derived/Test/ToyasCard.lean, 'card_holds'). Laid BY PROGRAM, IN A SANDBOX (cutbox-door.mjs). By AI agents, Wed Nov 11 2026. No macro, syntax, notation, axiom, sorry.
-/
import Derived.Test.YtlkcjmaiahnodaaGreatDoorRows
import GoSem.ClaimSeven
namespace Go.Proofs.YtlkcjmaiahnodaaGreatDoor
namespace Rows

/-- THE TIED CARD OF 'heartwoodlaw05.UnifyMatches'. -/
def unifyMatchesCard : Claim7 := { stood := { row := unifyMatchesRow, standIns := [], harness := (true, "cc6e0dfd2657a1d5001888bae87d69dd842751b3419e4c067c8fdf9a6138912c"), looks := false }, kinds := [], alts := [], laidByText := true, laidKinds := [.listed, .data], laidTests := true, laidLooks := .later }
def UnifyMatchesCardSaid : Prop := Claim7.holds Tryz.pinned (.plain (OpenSpec.ofChange unifyMatchesSpec)) unifyMatchesCard

/-- THE TIED CARD OF 'heartwoodlaw05.UnifyRenames'. -/
def unifyRenamesCard : Claim7 := { stood := { row := unifyRenamesRow, standIns := [], harness := (true, "cc6e0dfd2657a1d5001888bae87d69dd842751b3419e4c067c8fdf9a6138912c"), looks := false }, kinds := [], alts := [], laidByText := true, laidKinds := [.listed, .data], laidTests := true, laidLooks := .later }
def UnifyRenamesCardSaid : Prop := Claim7.holds Tryz.pinned (.plain (OpenSpec.ofChange unifyRenamesSpec)) unifyRenamesCard

/-- THE TIED CARD OF 'heartwoodlaw05.UnifyApplies'. -/
def unifyAppliesCard : Claim7 := { stood := { row := unifyAppliesRow, standIns := [], harness := (true, "cc6e0dfd2657a1d5001888bae87d69dd842751b3419e4c067c8fdf9a6138912c"), looks := false }, kinds := [], alts := [], laidByText := true, laidKinds := [.listed, .data], laidTests := true, laidLooks := .later }
def UnifyAppliesCardSaid : Prop := Claim7.holds Tryz.pinned (.plain (OpenSpec.ofChange unifyAppliesSpec)) unifyAppliesCard

/-- THE TIED CARD OF 'heartwoodlaw05.UnifyComposes'. -/
def unifyComposesCard : Claim7 := { stood := { row := unifyComposesRow, standIns := [], harness := (true, "cc6e0dfd2657a1d5001888bae87d69dd842751b3419e4c067c8fdf9a6138912c"), looks := false }, kinds := [], alts := [], laidByText := true, laidKinds := [.listed, .data], laidTests := true, laidLooks := .later }
def UnifyComposesCardSaid : Prop := Claim7.holds Tryz.pinned (.plain (OpenSpec.ofChange unifyComposesSpec)) unifyComposesCard

/-- THE TIED CARD OF 'heartwoodlaw05.UnifyChains'. -/
def unifyChainsCard : Claim7 := { stood := { row := unifyChainsRow, standIns := [], harness := (true, "cc6e0dfd2657a1d5001888bae87d69dd842751b3419e4c067c8fdf9a6138912c"), looks := false }, kinds := [], alts := [], laidByText := true, laidKinds := [.listed, .data], laidTests := true, laidLooks := .later }
def UnifyChainsCardSaid : Prop := Claim7.holds Tryz.pinned (.plain (OpenSpec.ofChange unifyChainsSpec)) unifyChainsCard

/-- THE TIED CARD OF 'heartwoodlaw05.UnifyEquates'. -/
def unifyEquatesCard : Claim7 := { stood := { row := unifyEquatesRow, standIns := [], harness := (true, "cc6e0dfd2657a1d5001888bae87d69dd842751b3419e4c067c8fdf9a6138912c"), looks := false }, kinds := [], alts := [], laidByText := true, laidKinds := [.listed, .data], laidTests := true, laidLooks := .later }
def UnifyEquatesCardSaid : Prop := Claim7.holds Tryz.pinned (.plain (OpenSpec.ofChange unifyEquatesSpec)) unifyEquatesCard

/-- THE TIED CARD OF 'heartwoodlaw06.RewriteNormals'. -/
def rewriteNormalsCard : Claim7 := { stood := { row := rewriteNormalsRow, standIns := [], harness := (true, "cc6e0dfd2657a1d5001888bae87d69dd842751b3419e4c067c8fdf9a6138912c"), looks := false }, kinds := [], alts := [], laidByText := true, laidKinds := [.listed, .data], laidTests := true, laidLooks := .later }
def RewriteNormalsCardSaid : Prop := Claim7.holds Tryz.pinned (.plain (OpenSpec.ofChange rewriteNormalsSpec)) rewriteNormalsCard

/-- THE TIED CARD OF 'heartwoodlaw06.RewriteReplays'. -/
def rewriteReplaysCard : Claim7 := { stood := { row := rewriteReplaysRow, standIns := [], harness := (true, "cc6e0dfd2657a1d5001888bae87d69dd842751b3419e4c067c8fdf9a6138912c"), looks := false }, kinds := [], alts := [], laidByText := true, laidKinds := [.listed, .data], laidTests := true, laidLooks := .later }
def RewriteReplaysCardSaid : Prop := Claim7.holds Tryz.pinned (.plain (OpenSpec.ofChange rewriteReplaysSpec)) rewriteReplaysCard

/-- THE TIED CARD OF 'heartwoodlaw06.RewriteSteps'. -/
def rewriteStepsCard : Claim7 := { stood := { row := rewriteStepsRow, standIns := [], harness := (true, "cc6e0dfd2657a1d5001888bae87d69dd842751b3419e4c067c8fdf9a6138912c"), looks := false }, kinds := [], alts := [], laidByText := true, laidKinds := [.listed, .data], laidTests := true, laidLooks := .later }
def RewriteStepsCardSaid : Prop := Claim7.holds Tryz.pinned (.plain (OpenSpec.ofChange rewriteStepsSpec)) rewriteStepsCard

/-- THE TIED CARD OF 'heartwoodlaw06.RewriteEnds'. -/
def rewriteEndsCard : Claim7 := { stood := { row := rewriteEndsRow, standIns := [], harness := (true, "cc6e0dfd2657a1d5001888bae87d69dd842751b3419e4c067c8fdf9a6138912c"), looks := false }, kinds := [], alts := [], laidByText := true, laidKinds := [.listed, .data], laidTests := true, laidLooks := .later }
def RewriteEndsCardSaid : Prop := Claim7.holds Tryz.pinned (.plain (OpenSpec.ofChange rewriteEndsSpec)) rewriteEndsCard

/-- THE SECOND FORM's CARD OF 'heartwoodlaw05.UnifyMatches'. -/
def unifyMatchesUptoCard : Claim7 := { stood := { row := unifyMatchesUptoRow, standIns := [], harness := (true, "cc6e0dfd2657a1d5001888bae87d69dd842751b3419e4c067c8fdf9a6138912c"), looks := false }, kinds := [], alts := [], laidByText := true, laidKinds := [.listed, .data], laidTests := true, laidLooks := .later }
def UnifyMatchesUptoCardSaid : Prop := Claim7.holds Tryz.pinned (.plain (OpenSpec.upto unifyMatchesSpec)) unifyMatchesUptoCard

/-- THE SECOND FORM's CARD OF 'heartwoodlaw05.UnifyRenames'. -/
def unifyRenamesUptoCard : Claim7 := { stood := { row := unifyRenamesUptoRow, standIns := [], harness := (true, "cc6e0dfd2657a1d5001888bae87d69dd842751b3419e4c067c8fdf9a6138912c"), looks := false }, kinds := [], alts := [], laidByText := true, laidKinds := [.listed, .data], laidTests := true, laidLooks := .later }
def UnifyRenamesUptoCardSaid : Prop := Claim7.holds Tryz.pinned (.plain (OpenSpec.upto unifyRenamesSpec)) unifyRenamesUptoCard

/-- THE SECOND FORM's CARD OF 'heartwoodlaw05.UnifyApplies'. -/
def unifyAppliesUptoCard : Claim7 := { stood := { row := unifyAppliesUptoRow, standIns := [], harness := (true, "cc6e0dfd2657a1d5001888bae87d69dd842751b3419e4c067c8fdf9a6138912c"), looks := false }, kinds := [], alts := [], laidByText := true, laidKinds := [.listed, .data], laidTests := true, laidLooks := .later }
def UnifyAppliesUptoCardSaid : Prop := Claim7.holds Tryz.pinned (.plain (OpenSpec.upto unifyAppliesSpec)) unifyAppliesUptoCard

/-- THE SECOND FORM's CARD OF 'heartwoodlaw05.UnifyComposes'. -/
def unifyComposesUptoCard : Claim7 := { stood := { row := unifyComposesUptoRow, standIns := [], harness := (true, "cc6e0dfd2657a1d5001888bae87d69dd842751b3419e4c067c8fdf9a6138912c"), looks := false }, kinds := [], alts := [], laidByText := true, laidKinds := [.listed, .data], laidTests := true, laidLooks := .later }
def UnifyComposesUptoCardSaid : Prop := Claim7.holds Tryz.pinned (.plain (OpenSpec.upto unifyComposesSpec)) unifyComposesUptoCard

/-- THE SECOND FORM's CARD OF 'heartwoodlaw05.UnifyChains'. -/
def unifyChainsUptoCard : Claim7 := { stood := { row := unifyChainsUptoRow, standIns := [], harness := (true, "cc6e0dfd2657a1d5001888bae87d69dd842751b3419e4c067c8fdf9a6138912c"), looks := false }, kinds := [], alts := [], laidByText := true, laidKinds := [.listed, .data], laidTests := true, laidLooks := .later }
def UnifyChainsUptoCardSaid : Prop := Claim7.holds Tryz.pinned (.plain (OpenSpec.upto unifyChainsSpec)) unifyChainsUptoCard

/-- THE SECOND FORM's CARD OF 'heartwoodlaw05.UnifyEquates'. -/
def unifyEquatesUptoCard : Claim7 := { stood := { row := unifyEquatesUptoRow, standIns := [], harness := (true, "cc6e0dfd2657a1d5001888bae87d69dd842751b3419e4c067c8fdf9a6138912c"), looks := false }, kinds := [], alts := [], laidByText := true, laidKinds := [.listed, .data], laidTests := true, laidLooks := .later }
def UnifyEquatesUptoCardSaid : Prop := Claim7.holds Tryz.pinned (.plain (OpenSpec.upto unifyEquatesSpec)) unifyEquatesUptoCard

/-- THE SECOND FORM's CARD OF 'heartwoodlaw06.RewriteNormals'. -/
def rewriteNormalsUptoCard : Claim7 := { stood := { row := rewriteNormalsUptoRow, standIns := [], harness := (true, "cc6e0dfd2657a1d5001888bae87d69dd842751b3419e4c067c8fdf9a6138912c"), looks := false }, kinds := [], alts := [], laidByText := true, laidKinds := [.listed, .data], laidTests := true, laidLooks := .later }
def RewriteNormalsUptoCardSaid : Prop := Claim7.holds Tryz.pinned (.plain (OpenSpec.upto rewriteNormalsSpec)) rewriteNormalsUptoCard

/-- THE SECOND FORM's CARD OF 'heartwoodlaw06.RewriteReplays'. -/
def rewriteReplaysUptoCard : Claim7 := { stood := { row := rewriteReplaysUptoRow, standIns := [], harness := (true, "cc6e0dfd2657a1d5001888bae87d69dd842751b3419e4c067c8fdf9a6138912c"), looks := false }, kinds := [], alts := [], laidByText := true, laidKinds := [.listed, .data], laidTests := true, laidLooks := .later }
def RewriteReplaysUptoCardSaid : Prop := Claim7.holds Tryz.pinned (.plain (OpenSpec.upto rewriteReplaysSpec)) rewriteReplaysUptoCard

/-- THE SECOND FORM's CARD OF 'heartwoodlaw06.RewriteSteps'. -/
def rewriteStepsUptoCard : Claim7 := { stood := { row := rewriteStepsUptoRow, standIns := [], harness := (true, "cc6e0dfd2657a1d5001888bae87d69dd842751b3419e4c067c8fdf9a6138912c"), looks := false }, kinds := [], alts := [], laidByText := true, laidKinds := [.listed, .data], laidTests := true, laidLooks := .later }
def RewriteStepsUptoCardSaid : Prop := Claim7.holds Tryz.pinned (.plain (OpenSpec.upto rewriteStepsSpec)) rewriteStepsUptoCard

/-- THE SECOND FORM's CARD OF 'heartwoodlaw06.RewriteEnds'. -/
def rewriteEndsUptoCard : Claim7 := { stood := { row := rewriteEndsUptoRow, standIns := [], harness := (true, "cc6e0dfd2657a1d5001888bae87d69dd842751b3419e4c067c8fdf9a6138912c"), looks := false }, kinds := [], alts := [], laidByText := true, laidKinds := [.listed, .data], laidTests := true, laidLooks := .later }
def RewriteEndsUptoCardSaid : Prop := Claim7.holds Tryz.pinned (.plain (OpenSpec.upto rewriteEndsSpec)) rewriteEndsUptoCard
end Rows
end Go.Proofs.YtlkcjmaiahnodaaGreatDoor
