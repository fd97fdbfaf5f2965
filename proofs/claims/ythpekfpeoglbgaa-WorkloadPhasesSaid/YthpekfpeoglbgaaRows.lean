/-
  No cell of these rows narrows 'for every input' (looked for: loops, veiled, ifaces, maps, wideKeys, modest, calm, conditions, laid).
  DERIVED. THE GIVEN ROWS OF THIS SEAT. 5 by the template 'for every input the law returns true; each argument reads behind the call as it read before'; 0 by the template 'total and deterministic' (their statements: YthpekfpeoglbgaaTotals.lean).
  GIVEN WITH THE SEED: the statements are not yours to turn. If you find one false, say at which input.
  Laid BY PROGRAM, IN A SANDBOX (cutbox-rows.mjs): the forced cells as the released guide's own fill.sh prints them over the translation 3ca293f46ce01509… (all of the seat's roots in one cut). By AI agents, Wed Nov 11 2026. No macro, syntax, notation, axiom, sorry.
-/
import Derived.Test.YthpekfpeoglbgaaChecked
import GoSem.Claim
import GoSem.ClaimJoined
import GoSem.ClaimMapViews
import Derived.JoinedTies
import Derived.KernelRfl
namespace Go.Proofs.Ythpekfpeoglbgaa
/- THE CELL 'sum', in the pinned program and in every row, IS THE sha256 OF THE DUMP (.gsa) THAT YthpekfpeoglbgaaProg.lean LOADS. Nothing in Lean hashes anything: it is a label: what it is worth is what the hold of that sum in a sandbox is worth. -/
noncomputable def Try.pinned : Pinned := { name := "ythpekfpeoglbgaa", sum := "3ca293f46ce01509e0307e1b47e4a75d9667b36654a3115ebc5a22cc0740bd7c", checked := Try.checked }
namespace Rows
def none {H : Type} : Left H := { results := [], args := [] }

/-- 'heartwoodlaw51.WorkloadGenerates': WHATEVER THE INPUT: true; the input reads as it did. -/
def workloadGeneratesSpec : ChangeSpec := { name := "workloadGenerates", fn := fun _ => fun
  | [d1, d2, d3] => { results := [.lit (.bool true)], args := [d1, d2, d3] }
  | _ => none }
def workloadGeneratesRow : OpenClaim := { program := "ythpekfpeoglbgaa", sum := "3ca293f46ce01509e0307e1b47e4a75d9667b36654a3115ebc5a22cc0740bd7c", func := "heartwood/heartwoodlaw51.WorkloadGenerates", spec := "workloadGenerates", unfollowed := true, recurses := true, apart := false }
def WorkloadGeneratesSaid : Prop := workloadGeneratesRow.holds Try.pinned (OpenSpec.ofChange workloadGeneratesSpec)

/-- ITS FALSE NEIGHBOUR: 'it returns false'. Refute it at one input. -/
def workloadGeneratesWrong : ChangeSpec := { name := "workloadGenerates", fn := fun _ => fun
  | [d1, d2, d3] => { results := [.lit (.bool false)], args := [d1, d2, d3] }
  | _ => none }
def WorkloadGeneratesWrongFalsely : Prop := workloadGeneratesRow.holds Try.pinned (OpenSpec.ofChange workloadGeneratesWrong)

/-- 'heartwoodlaw51.WorkloadPhases': WHATEVER THE INPUT: true; the input reads as it did. -/
def workloadPhasesSpec : ChangeSpec := { name := "workloadPhases", fn := fun _ => fun
  | [d1, d2, d3] => { results := [.lit (.bool true)], args := [d1, d2, d3] }
  | _ => none }
def workloadPhasesRow : OpenClaim := { program := "ythpekfpeoglbgaa", sum := "3ca293f46ce01509e0307e1b47e4a75d9667b36654a3115ebc5a22cc0740bd7c", func := "heartwood/heartwoodlaw51.WorkloadPhases", spec := "workloadPhases", unfollowed := true, recurses := true, apart := false }
def WorkloadPhasesSaid : Prop := workloadPhasesRow.holds Try.pinned (OpenSpec.ofChange workloadPhasesSpec)

/-- ITS FALSE NEIGHBOUR: 'it returns false'. Refute it at one input. -/
def workloadPhasesWrong : ChangeSpec := { name := "workloadPhases", fn := fun _ => fun
  | [d1, d2, d3] => { results := [.lit (.bool false)], args := [d1, d2, d3] }
  | _ => none }
def WorkloadPhasesWrongFalsely : Prop := workloadPhasesRow.holds Try.pinned (OpenSpec.ofChange workloadPhasesWrong)

/-- 'heartwoodlaw51.WorkloadEven': WHATEVER THE INPUT: true; the input reads as it did. -/
def workloadEvenSpec : ChangeSpec := { name := "workloadEven", fn := fun _ => fun
  | [d1, d2] => { results := [.lit (.bool true)], args := [d1, d2] }
  | _ => none }
def workloadEvenRow : OpenClaim := { program := "ythpekfpeoglbgaa", sum := "3ca293f46ce01509e0307e1b47e4a75d9667b36654a3115ebc5a22cc0740bd7c", func := "heartwood/heartwoodlaw51.WorkloadEven", spec := "workloadEven", unfollowed := true, recurses := true, apart := false }
def WorkloadEvenSaid : Prop := workloadEvenRow.holds Try.pinned (OpenSpec.ofChange workloadEvenSpec)

/-- ITS FALSE NEIGHBOUR: 'it returns false'. Refute it at one input. -/
def workloadEvenWrong : ChangeSpec := { name := "workloadEven", fn := fun _ => fun
  | [d1, d2] => { results := [.lit (.bool false)], args := [d1, d2] }
  | _ => none }
def WorkloadEvenWrongFalsely : Prop := workloadEvenRow.holds Try.pinned (OpenSpec.ofChange workloadEvenWrong)

/-- 'heartwoodlaw51.WorkloadMeasures': WHATEVER THE INPUT: true; the input reads as it did. -/
def workloadMeasuresSpec : ChangeSpec := { name := "workloadMeasures", fn := fun _ => fun
  | [d1, d2] => { results := [.lit (.bool true)], args := [d1, d2] }
  | _ => none }
def workloadMeasuresRow : OpenClaim := { program := "ythpekfpeoglbgaa", sum := "3ca293f46ce01509e0307e1b47e4a75d9667b36654a3115ebc5a22cc0740bd7c", func := "heartwood/heartwoodlaw51.WorkloadMeasures", spec := "workloadMeasures", unfollowed := true, recurses := true, apart := false }
def WorkloadMeasuresSaid : Prop := workloadMeasuresRow.holds Try.pinned (OpenSpec.ofChange workloadMeasuresSpec)

/-- ITS FALSE NEIGHBOUR: 'it returns false'. Refute it at one input. -/
def workloadMeasuresWrong : ChangeSpec := { name := "workloadMeasures", fn := fun _ => fun
  | [d1, d2] => { results := [.lit (.bool false)], args := [d1, d2] }
  | _ => none }
def WorkloadMeasuresWrongFalsely : Prop := workloadMeasuresRow.holds Try.pinned (OpenSpec.ofChange workloadMeasuresWrong)

/-- 'heartwoodlaw51.WorkloadKeeps': WHATEVER THE INPUT: true; the input reads as it did. -/
def workloadKeepsSpec : ChangeSpec := { name := "workloadKeeps", fn := fun _ => fun
  | [d1, d2, d3, d4] => { results := [.lit (.bool true)], args := [d1, d2, d3, d4] }
  | _ => none }
def workloadKeepsRow : OpenClaim := { program := "ythpekfpeoglbgaa", sum := "3ca293f46ce01509e0307e1b47e4a75d9667b36654a3115ebc5a22cc0740bd7c", func := "heartwood/heartwoodlaw51.WorkloadKeeps", spec := "workloadKeeps", unfollowed := true, recurses := true, apart := false }
def WorkloadKeepsSaid : Prop := workloadKeepsRow.holds Try.pinned (OpenSpec.ofChange workloadKeepsSpec)

/-- ITS FALSE NEIGHBOUR: 'it returns false'. Refute it at one input. -/
def workloadKeepsWrong : ChangeSpec := { name := "workloadKeeps", fn := fun _ => fun
  | [d1, d2, d3, d4] => { results := [.lit (.bool false)], args := [d1, d2, d3, d4] }
  | _ => none }
def WorkloadKeepsWrongFalsely : Prop := workloadKeepsRow.holds Try.pinned (OpenSpec.ofChange workloadKeepsWrong)

/- THE SECOND FORM. 'bulk': how many values and letters a reading holds, each counted each time it is reached (what is shared counts as often as it is met; a slice's spare places count too). A statement '..UptoSaid' is the law's where the arguments, and the package variables that the reading takes, are together of bulk at most 1048576: NARROWER than '..Said'. Prove '..Said' where nothing that the law and all that it calls make is longer than what came in: it says more and counts as full. Else prove '..UptoSaid'. A law counts once. -/
mutual
def uptoBulk {H : Type} : DataW H → Nat
  | .lit (.string bytes) => bytes.length + 1
  | .lit _ => 1
  | .nil => 1
  | .ptr d => uptoBulk d + 1
  | .slice elems spare => uptoBulkAll elems + uptoBulkAll spare + 1
  | .agg parts => uptoBulkAll parts + 1
  | .iface _ d => uptoBulk d + 1
  | .map entries => uptoBulkEntries entries + 1
  | .held _ => 1
def uptoBulkAll {H : Type} : List (DataW H) → Nat
  | [] => 0
  | d :: r => uptoBulk d + uptoBulkAll r
def uptoBulkEntries {H : Type} : List (Lit × DataW H) → Nat
  | [] => 0
  | x :: r => uptoBulkEntry x + uptoBulkEntries r
def uptoBulkEntry {H : Type} : Lit × DataW H → Nat
  | (.string bytes, d) => bytes.length + uptoBulk d + 1
  | (_, d) => uptoBulk d + 1
 end
def uptoSmall : (H : Type) → List (DataW H) → Bool := fun _ ds => decide (uptoBulkAll ds ≤ 1048576)
def OpenSpec.upto (s : _root_.Go.ChangeSpec) : _root_.Go.OpenSpec := { _root_.Go.OpenSpec.ofChange s with cond := some uptoSmall }

/-- 'heartwoodlaw51.WorkloadGenerates', WHERE WHAT IT READS IS OF BULK AT MOST 1048576: true; the input reads as it did. -/
def workloadGeneratesUptoRow : OpenClaim := { program := "ythpekfpeoglbgaa", sum := "3ca293f46ce01509e0307e1b47e4a75d9667b36654a3115ebc5a22cc0740bd7c", func := "heartwood/heartwoodlaw51.WorkloadGenerates", spec := "workloadGenerates", unfollowed := true, recurses := true, apart := false, narrowed := true }
def WorkloadGeneratesUptoSaid : Prop := workloadGeneratesUptoRow.holds Try.pinned (OpenSpec.upto workloadGeneratesSpec)

/-- 'heartwoodlaw51.WorkloadPhases', WHERE WHAT IT READS IS OF BULK AT MOST 1048576: true; the input reads as it did. -/
def workloadPhasesUptoRow : OpenClaim := { program := "ythpekfpeoglbgaa", sum := "3ca293f46ce01509e0307e1b47e4a75d9667b36654a3115ebc5a22cc0740bd7c", func := "heartwood/heartwoodlaw51.WorkloadPhases", spec := "workloadPhases", unfollowed := true, recurses := true, apart := false, narrowed := true }
def WorkloadPhasesUptoSaid : Prop := workloadPhasesUptoRow.holds Try.pinned (OpenSpec.upto workloadPhasesSpec)

/-- 'heartwoodlaw51.WorkloadEven', WHERE WHAT IT READS IS OF BULK AT MOST 1048576: true; the input reads as it did. -/
def workloadEvenUptoRow : OpenClaim := { program := "ythpekfpeoglbgaa", sum := "3ca293f46ce01509e0307e1b47e4a75d9667b36654a3115ebc5a22cc0740bd7c", func := "heartwood/heartwoodlaw51.WorkloadEven", spec := "workloadEven", unfollowed := true, recurses := true, apart := false, narrowed := true }
def WorkloadEvenUptoSaid : Prop := workloadEvenUptoRow.holds Try.pinned (OpenSpec.upto workloadEvenSpec)

/-- 'heartwoodlaw51.WorkloadMeasures', WHERE WHAT IT READS IS OF BULK AT MOST 1048576: true; the input reads as it did. -/
def workloadMeasuresUptoRow : OpenClaim := { program := "ythpekfpeoglbgaa", sum := "3ca293f46ce01509e0307e1b47e4a75d9667b36654a3115ebc5a22cc0740bd7c", func := "heartwood/heartwoodlaw51.WorkloadMeasures", spec := "workloadMeasures", unfollowed := true, recurses := true, apart := false, narrowed := true }
def WorkloadMeasuresUptoSaid : Prop := workloadMeasuresUptoRow.holds Try.pinned (OpenSpec.upto workloadMeasuresSpec)

/-- 'heartwoodlaw51.WorkloadKeeps', WHERE WHAT IT READS IS OF BULK AT MOST 1048576: true; the input reads as it did. -/
def workloadKeepsUptoRow : OpenClaim := { program := "ythpekfpeoglbgaa", sum := "3ca293f46ce01509e0307e1b47e4a75d9667b36654a3115ebc5a22cc0740bd7c", func := "heartwood/heartwoodlaw51.WorkloadKeeps", spec := "workloadKeeps", unfollowed := true, recurses := true, apart := false, narrowed := true }
def WorkloadKeepsUptoSaid : Prop := workloadKeepsUptoRow.holds Try.pinned (OpenSpec.upto workloadKeepsSpec)

end Rows
end Go.Proofs.Ythpekfpeoglbgaa
