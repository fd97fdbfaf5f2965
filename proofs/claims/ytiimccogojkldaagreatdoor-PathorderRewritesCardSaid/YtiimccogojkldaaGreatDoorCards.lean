/-
  DERIVED. GIVEN WITH THE SEED: THE CARDS: each row of YtiimccogojkldaaGreatDoorRows.lean that lists a variable, with what it lists TIED to the program's text (the seventh form; the later family's looks); each row that meets fmt, with fmt's text TOLD by the authors' own Lean function (tested against real Go, not proved from fmt's source: count such statements apart). THE CARD IS WHAT COUNTS. Prove the row's statement (the work); the ties are given (YtiimccogojkldaaGreatDoorTie.lean); close each card by the builder's one call (the guide's Derived/Test/ToyasCard.lean, 'card_holds'). Laid BY PROGRAM, IN A SANDBOX (cutbox-door.mjs). By AI agents, Wed Nov 11 2026. No macro, syntax, notation, axiom, sorry.
-/
import Derived.Test.YtiimccogojkldaaGreatDoorRows
import GoSem.ClaimSeven
namespace Go.Proofs.YtiimccogojkldaaGreatDoor
namespace Rows

/-- THE TIED CARD OF 'heartwoodlaw08.PathorderGreater'. -/
def pathorderGreaterCard : Claim7 := { stood := { row := pathorderGreaterRow, standIns := [], harness := (true, "bac6dac459e8299fc4ebf66e6e4987433add47040902b3fb521380f412e52315"), looks := false }, kinds := [], alts := [], laidByText := true, laidKinds := [.data, .data, .data, .listed, .data], laidTests := true, laidLooks := .later }
def PathorderGreaterCardSaid : Prop := Claim7.holds Tryz.pinned (.plain (OpenSpec.ofChange pathorderGreaterSpec)) pathorderGreaterCard

/-- THE TIED CARD OF 'heartwoodlaw08.PathorderRules'. -/
def pathorderRulesCard : Claim7 := { stood := { row := pathorderRulesRow, standIns := [], harness := (true, "bac6dac459e8299fc4ebf66e6e4987433add47040902b3fb521380f412e52315"), looks := false }, kinds := [], alts := [], laidByText := true, laidKinds := [.data, .data, .data, .listed, .data], laidTests := true, laidLooks := .later }
def PathorderRulesCardSaid : Prop := Claim7.holds Tryz.pinned (.plain (OpenSpec.ofChange pathorderRulesSpec)) pathorderRulesCard

/-- THE TIED CARD OF 'heartwoodlaw08.PathorderFinds'. -/
def pathorderFindsCard : Claim7 := { stood := { row := pathorderFindsRow, standIns := [], harness := (true, "bac6dac459e8299fc4ebf66e6e4987433add47040902b3fb521380f412e52315"), looks := false }, kinds := [], alts := [], laidByText := true, laidKinds := [.data, .data, .data, .listed, .data], laidTests := true, laidLooks := .later }
def PathorderFindsCardSaid : Prop := Claim7.holds Tryz.pinned (.plain (OpenSpec.ofChange pathorderFindsSpec)) pathorderFindsCard

/-- THE TIED CARD OF 'heartwoodlaw08.PathorderDescends'. -/
def pathorderDescendsCard : Claim7 := { stood := { row := pathorderDescendsRow, standIns := [], harness := (true, "bac6dac459e8299fc4ebf66e6e4987433add47040902b3fb521380f412e52315"), looks := false }, kinds := [], alts := [], laidByText := true, laidKinds := [.data, .data, .data, .listed, .data], laidTests := true, laidLooks := .later }
def PathorderDescendsCardSaid : Prop := Claim7.holds Tryz.pinned (.plain (OpenSpec.ofChange pathorderDescendsSpec)) pathorderDescendsCard

/-- THE TIED CARD OF 'heartwoodlaw08.PathorderMonotone'. -/
def pathorderMonotoneCard : Claim7 := { stood := { row := pathorderMonotoneRow, standIns := [], harness := (true, "bac6dac459e8299fc4ebf66e6e4987433add47040902b3fb521380f412e52315"), looks := false }, kinds := [], alts := [], laidByText := true, laidKinds := [.data, .data, .data, .listed, .data], laidTests := true, laidLooks := .later }
def PathorderMonotoneCardSaid : Prop := Claim7.holds Tryz.pinned (.plain (OpenSpec.ofChange pathorderMonotoneSpec)) pathorderMonotoneCard

/-- THE TIED CARD OF 'heartwoodlaw08.PathorderRewrites'. -/
def pathorderRewritesCard : Claim7 := { stood := { row := pathorderRewritesRow, standIns := [], harness := (true, "bac6dac459e8299fc4ebf66e6e4987433add47040902b3fb521380f412e52315"), looks := false }, kinds := [], alts := [], laidByText := true, laidKinds := [.data, .data, .data, .listed, .data], laidTests := true, laidLooks := .later }
def PathorderRewritesCardSaid : Prop := Claim7.holds Tryz.pinned (.plain (OpenSpec.ofChange pathorderRewritesSpec)) pathorderRewritesCard

/-- THE SECOND FORM's CARD OF 'heartwoodlaw08.PathorderGreater'. -/
def pathorderGreaterUptoCard : Claim7 := { stood := { row := pathorderGreaterUptoRow, standIns := [], harness := (true, "bac6dac459e8299fc4ebf66e6e4987433add47040902b3fb521380f412e52315"), looks := false }, kinds := [], alts := [], laidByText := true, laidKinds := [.data, .data, .data, .listed, .data], laidTests := true, laidLooks := .later }
def PathorderGreaterUptoCardSaid : Prop := Claim7.holds Tryz.pinned (.plain (OpenSpec.upto pathorderGreaterSpec)) pathorderGreaterUptoCard

/-- THE SECOND FORM's CARD OF 'heartwoodlaw08.PathorderRules'. -/
def pathorderRulesUptoCard : Claim7 := { stood := { row := pathorderRulesUptoRow, standIns := [], harness := (true, "bac6dac459e8299fc4ebf66e6e4987433add47040902b3fb521380f412e52315"), looks := false }, kinds := [], alts := [], laidByText := true, laidKinds := [.data, .data, .data, .listed, .data], laidTests := true, laidLooks := .later }
def PathorderRulesUptoCardSaid : Prop := Claim7.holds Tryz.pinned (.plain (OpenSpec.upto pathorderRulesSpec)) pathorderRulesUptoCard

/-- THE SECOND FORM's CARD OF 'heartwoodlaw08.PathorderFinds'. -/
def pathorderFindsUptoCard : Claim7 := { stood := { row := pathorderFindsUptoRow, standIns := [], harness := (true, "bac6dac459e8299fc4ebf66e6e4987433add47040902b3fb521380f412e52315"), looks := false }, kinds := [], alts := [], laidByText := true, laidKinds := [.data, .data, .data, .listed, .data], laidTests := true, laidLooks := .later }
def PathorderFindsUptoCardSaid : Prop := Claim7.holds Tryz.pinned (.plain (OpenSpec.upto pathorderFindsSpec)) pathorderFindsUptoCard

/-- THE SECOND FORM's CARD OF 'heartwoodlaw08.PathorderDescends'. -/
def pathorderDescendsUptoCard : Claim7 := { stood := { row := pathorderDescendsUptoRow, standIns := [], harness := (true, "bac6dac459e8299fc4ebf66e6e4987433add47040902b3fb521380f412e52315"), looks := false }, kinds := [], alts := [], laidByText := true, laidKinds := [.data, .data, .data, .listed, .data], laidTests := true, laidLooks := .later }
def PathorderDescendsUptoCardSaid : Prop := Claim7.holds Tryz.pinned (.plain (OpenSpec.upto pathorderDescendsSpec)) pathorderDescendsUptoCard

/-- THE SECOND FORM's CARD OF 'heartwoodlaw08.PathorderMonotone'. -/
def pathorderMonotoneUptoCard : Claim7 := { stood := { row := pathorderMonotoneUptoRow, standIns := [], harness := (true, "bac6dac459e8299fc4ebf66e6e4987433add47040902b3fb521380f412e52315"), looks := false }, kinds := [], alts := [], laidByText := true, laidKinds := [.data, .data, .data, .listed, .data], laidTests := true, laidLooks := .later }
def PathorderMonotoneUptoCardSaid : Prop := Claim7.holds Tryz.pinned (.plain (OpenSpec.upto pathorderMonotoneSpec)) pathorderMonotoneUptoCard

/-- THE SECOND FORM's CARD OF 'heartwoodlaw08.PathorderRewrites'. -/
def pathorderRewritesUptoCard : Claim7 := { stood := { row := pathorderRewritesUptoRow, standIns := [], harness := (true, "bac6dac459e8299fc4ebf66e6e4987433add47040902b3fb521380f412e52315"), looks := false }, kinds := [], alts := [], laidByText := true, laidKinds := [.data, .data, .data, .listed, .data], laidTests := true, laidLooks := .later }
def PathorderRewritesUptoCardSaid : Prop := Claim7.holds Tryz.pinned (.plain (OpenSpec.upto pathorderRewritesSpec)) pathorderRewritesUptoCard
end Rows
end Go.Proofs.YtiimccogojkldaaGreatDoor
