/-
  NARROWER THAN 'FOR EVERY INPUT', by the rows' own cells (each row's printed sentence says how): UnifyMatches: loops, laid · UnifyRenames: loops, laid · UnifyApplies: loops, laid · UnifyComposes: loops, laid · UnifyChains: loops, laid · UnifyEquates: loops, laid · RewriteNormals: loops, laid · RewriteReplays: loops, laid · RewriteSteps: loops, laid · RewriteEnds: loops, laid.
  DERIVED. THE GIVEN ROWS OF THIS SEAT. 10 by the template 'for every input the law returns true; each argument reads behind the call as it read before'; 0 by the template 'total and deterministic' (their statements: YtlkcjmaiahnodaaGreatDoorTotals.lean).
  GIVEN WITH THE SEED: the statements are not yours to turn. If you find one false, say at which input.
  Laid BY PROGRAM, IN A SANDBOX (cutbox-rows.mjs): the forced cells as the released guide's own fill.sh prints them over the translation 65dda437bf80a22d… (all of the seat's roots in one cut). By AI agents, Wed Nov 11 2026. No macro, syntax, notation, axiom, sorry.
-/
import Derived.Test.YtlkcjmaiahnodaaGreatDoorChecked
import GoSem.Claim
import GoSem.ClaimJoined
import GoSem.ClaimMapViews
import Derived.JoinedTies
import Derived.KernelRfl
namespace Go.Proofs.YtlkcjmaiahnodaaGreatDoor
/- THE CELL 'sum', in the pinned program and in every row, IS THE sha256 OF THE DUMP (.gsa) THAT YtlkcjmaiahnodaaGreatDoorProg.lean LOADS. Nothing in Lean hashes anything: it is a label: what it is worth is what the hold of that sum in a sandbox is worth. -/
noncomputable def Tryz.pinned : Pinned := { name := "ytlkcjmaiahnodaagreatdoor", sum := "65dda437bf80a22db37fc548ed09e1f9957fc2eed485cc463f1b7211816320f2", checked := Tryz.checked }
namespace Rows
def none {H : Type} : Left H := { results := [], args := [] }

/- WHAT THE LISTED PACKAGE-LEVEL VARIABLES READ AS WHEN THE CALL BEGINS. Each datum BY PROGRAM (the guide's laid-datum.mjs) off the statement by which the dump's own 'gosem.cut.vars' lays the variable. In a bare row this is a premise. The card (YtlkcjmaiahnodaaGreatDoorCards.lean) ties it to the program's text. -/
def laid_unicode_White_Space {H : Type} : DataW H := .ptr (.agg [.slice [.agg [.lit (.int .u16 9), .lit (.int .u16 13), .lit (.int .u16 1)], .agg [.lit (.int .u16 32), .lit (.int .u16 133), .lit (.int .u16 101)], .agg [.lit (.int .u16 160), .lit (.int .u16 5760), .lit (.int .u16 5600)], .agg [.lit (.int .u16 8192), .lit (.int .u16 8202), .lit (.int .u16 1)], .agg [.lit (.int .u16 8232), .lit (.int .u16 8233), .lit (.int .u16 1)], .agg [.lit (.int .u16 8239), .lit (.int .u16 8287), .lit (.int .u16 48)], .agg [.lit (.int .u16 12288), .lit (.int .u16 12288), .lit (.int .u16 1)]] [], .nil, .lit (.int .i64 2)])
def laid_strings_asciiSpace {H : Type} : DataW H := .agg [.lit (.int .u8 0), .lit (.int .u8 0), .lit (.int .u8 0), .lit (.int .u8 0), .lit (.int .u8 0), .lit (.int .u8 0), .lit (.int .u8 0), .lit (.int .u8 0), .lit (.int .u8 0), .lit (.int .u8 1), .lit (.int .u8 1), .lit (.int .u8 1), .lit (.int .u8 1), .lit (.int .u8 1), .lit (.int .u8 0), .lit (.int .u8 0), .lit (.int .u8 0), .lit (.int .u8 0), .lit (.int .u8 0), .lit (.int .u8 0), .lit (.int .u8 0), .lit (.int .u8 0), .lit (.int .u8 0), .lit (.int .u8 0), .lit (.int .u8 0), .lit (.int .u8 0), .lit (.int .u8 0), .lit (.int .u8 0), .lit (.int .u8 0), .lit (.int .u8 0), .lit (.int .u8 0), .lit (.int .u8 0), .lit (.int .u8 1), .lit (.int .u8 0), .lit (.int .u8 0), .lit (.int .u8 0), .lit (.int .u8 0), .lit (.int .u8 0), .lit (.int .u8 0), .lit (.int .u8 0), .lit (.int .u8 0), .lit (.int .u8 0), .lit (.int .u8 0), .lit (.int .u8 0), .lit (.int .u8 0), .lit (.int .u8 0), .lit (.int .u8 0), .lit (.int .u8 0), .lit (.int .u8 0), .lit (.int .u8 0), .lit (.int .u8 0), .lit (.int .u8 0), .lit (.int .u8 0), .lit (.int .u8 0), .lit (.int .u8 0), .lit (.int .u8 0), .lit (.int .u8 0), .lit (.int .u8 0), .lit (.int .u8 0), .lit (.int .u8 0), .lit (.int .u8 0), .lit (.int .u8 0), .lit (.int .u8 0), .lit (.int .u8 0), .lit (.int .u8 0), .lit (.int .u8 0), .lit (.int .u8 0), .lit (.int .u8 0), .lit (.int .u8 0), .lit (.int .u8 0), .lit (.int .u8 0), .lit (.int .u8 0), .lit (.int .u8 0), .lit (.int .u8 0), .lit (.int .u8 0), .lit (.int .u8 0), .lit (.int .u8 0), .lit (.int .u8 0), .lit (.int .u8 0), .lit (.int .u8 0), .lit (.int .u8 0), .lit (.int .u8 0), .lit (.int .u8 0), .lit (.int .u8 0), .lit (.int .u8 0), .lit (.int .u8 0), .lit (.int .u8 0), .lit (.int .u8 0), .lit (.int .u8 0), .lit (.int .u8 0), .lit (.int .u8 0), .lit (.int .u8 0), .lit (.int .u8 0), .lit (.int .u8 0), .lit (.int .u8 0), .lit (.int .u8 0), .lit (.int .u8 0), .lit (.int .u8 0), .lit (.int .u8 0), .lit (.int .u8 0), .lit (.int .u8 0), .lit (.int .u8 0), .lit (.int .u8 0), .lit (.int .u8 0), .lit (.int .u8 0), .lit (.int .u8 0), .lit (.int .u8 0), .lit (.int .u8 0), .lit (.int .u8 0), .lit (.int .u8 0), .lit (.int .u8 0), .lit (.int .u8 0), .lit (.int .u8 0), .lit (.int .u8 0), .lit (.int .u8 0), .lit (.int .u8 0), .lit (.int .u8 0), .lit (.int .u8 0), .lit (.int .u8 0), .lit (.int .u8 0), .lit (.int .u8 0), .lit (.int .u8 0), .lit (.int .u8 0), .lit (.int .u8 0), .lit (.int .u8 0), .lit (.int .u8 0), .lit (.int .u8 0), .lit (.int .u8 0), .lit (.int .u8 0), .lit (.int .u8 0), .lit (.int .u8 0), .lit (.int .u8 0), .lit (.int .u8 0), .lit (.int .u8 0), .lit (.int .u8 0), .lit (.int .u8 0), .lit (.int .u8 0), .lit (.int .u8 0), .lit (.int .u8 0), .lit (.int .u8 0), .lit (.int .u8 0), .lit (.int .u8 0), .lit (.int .u8 0), .lit (.int .u8 0), .lit (.int .u8 0), .lit (.int .u8 0), .lit (.int .u8 0), .lit (.int .u8 0), .lit (.int .u8 0), .lit (.int .u8 0), .lit (.int .u8 0), .lit (.int .u8 0), .lit (.int .u8 0), .lit (.int .u8 0), .lit (.int .u8 0), .lit (.int .u8 0), .lit (.int .u8 0), .lit (.int .u8 0), .lit (.int .u8 0), .lit (.int .u8 0), .lit (.int .u8 0), .lit (.int .u8 0), .lit (.int .u8 0), .lit (.int .u8 0), .lit (.int .u8 0), .lit (.int .u8 0), .lit (.int .u8 0), .lit (.int .u8 0), .lit (.int .u8 0), .lit (.int .u8 0), .lit (.int .u8 0), .lit (.int .u8 0), .lit (.int .u8 0), .lit (.int .u8 0), .lit (.int .u8 0), .lit (.int .u8 0), .lit (.int .u8 0), .lit (.int .u8 0), .lit (.int .u8 0), .lit (.int .u8 0), .lit (.int .u8 0), .lit (.int .u8 0), .lit (.int .u8 0), .lit (.int .u8 0), .lit (.int .u8 0), .lit (.int .u8 0), .lit (.int .u8 0), .lit (.int .u8 0), .lit (.int .u8 0), .lit (.int .u8 0), .lit (.int .u8 0), .lit (.int .u8 0), .lit (.int .u8 0), .lit (.int .u8 0), .lit (.int .u8 0), .lit (.int .u8 0), .lit (.int .u8 0), .lit (.int .u8 0), .lit (.int .u8 0), .lit (.int .u8 0), .lit (.int .u8 0), .lit (.int .u8 0), .lit (.int .u8 0), .lit (.int .u8 0), .lit (.int .u8 0), .lit (.int .u8 0), .lit (.int .u8 0), .lit (.int .u8 0), .lit (.int .u8 0), .lit (.int .u8 0), .lit (.int .u8 0), .lit (.int .u8 0), .lit (.int .u8 0), .lit (.int .u8 0), .lit (.int .u8 0), .lit (.int .u8 0), .lit (.int .u8 0), .lit (.int .u8 0), .lit (.int .u8 0), .lit (.int .u8 0), .lit (.int .u8 0), .lit (.int .u8 0), .lit (.int .u8 0), .lit (.int .u8 0), .lit (.int .u8 0), .lit (.int .u8 0), .lit (.int .u8 0), .lit (.int .u8 0), .lit (.int .u8 0), .lit (.int .u8 0), .lit (.int .u8 0), .lit (.int .u8 0), .lit (.int .u8 0), .lit (.int .u8 0), .lit (.int .u8 0), .lit (.int .u8 0), .lit (.int .u8 0), .lit (.int .u8 0), .lit (.int .u8 0), .lit (.int .u8 0), .lit (.int .u8 0), .lit (.int .u8 0), .lit (.int .u8 0), .lit (.int .u8 0), .lit (.int .u8 0), .lit (.int .u8 0), .lit (.int .u8 0), .lit (.int .u8 0), .lit (.int .u8 0), .lit (.int .u8 0), .lit (.int .u8 0), .lit (.int .u8 0), .lit (.int .u8 0), .lit (.int .u8 0), .lit (.int .u8 0), .lit (.int .u8 0)]

/-- 'heartwoodlaw05.UnifyMatches': WHATEVER THE INPUT: true; the input reads as it did. -/
def unifyMatchesSpec : ChangeSpec := { name := "unifyMatches", fn := fun _ => fun
  | [d1, d2] => { results := [.lit (.bool true)], args := [d1, d2] }
  | _ => none }
def unifyMatchesRow : OpenClaim := { program := "ytlkcjmaiahnodaagreatdoor", sum := "65dda437bf80a22db37fc548ed09e1f9957fc2eed485cc463f1b7211816320f2", func := "heartwood/heartwoodlaw05.UnifyMatches", spec := "unifyMatches", inPlace := ["internal/bytealg.abigen_runtime_cmpstring"], unfollowed := true, recurses := true, named := ["strings.asciiSpace", "unicode.White_Space"], loops := true, apart := false, laid := [("unicode.White_Space", laid_unicode_White_Space), ("strings.asciiSpace", laid_strings_asciiSpace)] }
def UnifyMatchesSaid : Prop := unifyMatchesRow.holds Tryz.pinned (OpenSpec.ofChange unifyMatchesSpec)

/-- ITS FALSE NEIGHBOUR: 'it returns false'. Refute it at one input. -/
def unifyMatchesWrong : ChangeSpec := { name := "unifyMatches", fn := fun _ => fun
  | [d1, d2] => { results := [.lit (.bool false)], args := [d1, d2] }
  | _ => none }
def UnifyMatchesWrongFalsely : Prop := unifyMatchesRow.holds Tryz.pinned (OpenSpec.ofChange unifyMatchesWrong)

/-- 'heartwoodlaw05.UnifyRenames': WHATEVER THE INPUT: true; the input reads as it did. -/
def unifyRenamesSpec : ChangeSpec := { name := "unifyRenames", fn := fun _ => fun
  | [d1, d2, d3] => { results := [.lit (.bool true)], args := [d1, d2, d3] }
  | _ => none }
def unifyRenamesRow : OpenClaim := { program := "ytlkcjmaiahnodaagreatdoor", sum := "65dda437bf80a22db37fc548ed09e1f9957fc2eed485cc463f1b7211816320f2", func := "heartwood/heartwoodlaw05.UnifyRenames", spec := "unifyRenames", inPlace := ["internal/bytealg.abigen_runtime_cmpstring"], unfollowed := true, recurses := true, named := ["strings.asciiSpace", "unicode.White_Space"], loops := true, apart := false, laid := [("unicode.White_Space", laid_unicode_White_Space), ("strings.asciiSpace", laid_strings_asciiSpace)] }
def UnifyRenamesSaid : Prop := unifyRenamesRow.holds Tryz.pinned (OpenSpec.ofChange unifyRenamesSpec)

/-- ITS FALSE NEIGHBOUR: 'it returns false'. Refute it at one input. -/
def unifyRenamesWrong : ChangeSpec := { name := "unifyRenames", fn := fun _ => fun
  | [d1, d2, d3] => { results := [.lit (.bool false)], args := [d1, d2, d3] }
  | _ => none }
def UnifyRenamesWrongFalsely : Prop := unifyRenamesRow.holds Tryz.pinned (OpenSpec.ofChange unifyRenamesWrong)

/-- 'heartwoodlaw05.UnifyApplies': WHATEVER THE INPUT: true; the input reads as it did. -/
def unifyAppliesSpec : ChangeSpec := { name := "unifyApplies", fn := fun _ => fun
  | [d1, d2] => { results := [.lit (.bool true)], args := [d1, d2] }
  | _ => none }
def unifyAppliesRow : OpenClaim := { program := "ytlkcjmaiahnodaagreatdoor", sum := "65dda437bf80a22db37fc548ed09e1f9957fc2eed485cc463f1b7211816320f2", func := "heartwood/heartwoodlaw05.UnifyApplies", spec := "unifyApplies", inPlace := ["internal/bytealg.abigen_runtime_cmpstring"], unfollowed := true, recurses := true, named := ["strings.asciiSpace", "unicode.White_Space"], loops := true, apart := false, laid := [("unicode.White_Space", laid_unicode_White_Space), ("strings.asciiSpace", laid_strings_asciiSpace)] }
def UnifyAppliesSaid : Prop := unifyAppliesRow.holds Tryz.pinned (OpenSpec.ofChange unifyAppliesSpec)

/-- ITS FALSE NEIGHBOUR: 'it returns false'. Refute it at one input. -/
def unifyAppliesWrong : ChangeSpec := { name := "unifyApplies", fn := fun _ => fun
  | [d1, d2] => { results := [.lit (.bool false)], args := [d1, d2] }
  | _ => none }
def UnifyAppliesWrongFalsely : Prop := unifyAppliesRow.holds Tryz.pinned (OpenSpec.ofChange unifyAppliesWrong)

/-- 'heartwoodlaw05.UnifyComposes': WHATEVER THE INPUT: true; the input reads as it did. -/
def unifyComposesSpec : ChangeSpec := { name := "unifyComposes", fn := fun _ => fun
  | [d1, d2] => { results := [.lit (.bool true)], args := [d1, d2] }
  | _ => none }
def unifyComposesRow : OpenClaim := { program := "ytlkcjmaiahnodaagreatdoor", sum := "65dda437bf80a22db37fc548ed09e1f9957fc2eed485cc463f1b7211816320f2", func := "heartwood/heartwoodlaw05.UnifyComposes", spec := "unifyComposes", inPlace := ["internal/bytealg.abigen_runtime_cmpstring"], unfollowed := true, recurses := true, named := ["strings.asciiSpace", "unicode.White_Space"], loops := true, apart := false, laid := [("unicode.White_Space", laid_unicode_White_Space), ("strings.asciiSpace", laid_strings_asciiSpace)] }
def UnifyComposesSaid : Prop := unifyComposesRow.holds Tryz.pinned (OpenSpec.ofChange unifyComposesSpec)

/-- ITS FALSE NEIGHBOUR: 'it returns false'. Refute it at one input. -/
def unifyComposesWrong : ChangeSpec := { name := "unifyComposes", fn := fun _ => fun
  | [d1, d2] => { results := [.lit (.bool false)], args := [d1, d2] }
  | _ => none }
def UnifyComposesWrongFalsely : Prop := unifyComposesRow.holds Tryz.pinned (OpenSpec.ofChange unifyComposesWrong)

/-- 'heartwoodlaw05.UnifyChains': WHATEVER THE INPUT: true; the input reads as it did. -/
def unifyChainsSpec : ChangeSpec := { name := "unifyChains", fn := fun _ => fun
  | [d1, d2, d3, d4] => { results := [.lit (.bool true)], args := [d1, d2, d3, d4] }
  | _ => none }
def unifyChainsRow : OpenClaim := { program := "ytlkcjmaiahnodaagreatdoor", sum := "65dda437bf80a22db37fc548ed09e1f9957fc2eed485cc463f1b7211816320f2", func := "heartwood/heartwoodlaw05.UnifyChains", spec := "unifyChains", inPlace := ["internal/bytealg.abigen_runtime_cmpstring"], unfollowed := true, recurses := true, named := ["strings.asciiSpace", "unicode.White_Space"], loops := true, apart := false, laid := [("unicode.White_Space", laid_unicode_White_Space), ("strings.asciiSpace", laid_strings_asciiSpace)] }
def UnifyChainsSaid : Prop := unifyChainsRow.holds Tryz.pinned (OpenSpec.ofChange unifyChainsSpec)

/-- ITS FALSE NEIGHBOUR: 'it returns false'. Refute it at one input. -/
def unifyChainsWrong : ChangeSpec := { name := "unifyChains", fn := fun _ => fun
  | [d1, d2, d3, d4] => { results := [.lit (.bool false)], args := [d1, d2, d3, d4] }
  | _ => none }
def UnifyChainsWrongFalsely : Prop := unifyChainsRow.holds Tryz.pinned (OpenSpec.ofChange unifyChainsWrong)

/-- 'heartwoodlaw05.UnifyEquates': WHATEVER THE INPUT: true; the input reads as it did. -/
def unifyEquatesSpec : ChangeSpec := { name := "unifyEquates", fn := fun _ => fun
  | [d1, d2] => { results := [.lit (.bool true)], args := [d1, d2] }
  | _ => none }
def unifyEquatesRow : OpenClaim := { program := "ytlkcjmaiahnodaagreatdoor", sum := "65dda437bf80a22db37fc548ed09e1f9957fc2eed485cc463f1b7211816320f2", func := "heartwood/heartwoodlaw05.UnifyEquates", spec := "unifyEquates", inPlace := ["internal/bytealg.abigen_runtime_cmpstring"], unfollowed := true, recurses := true, named := ["strings.asciiSpace", "unicode.White_Space"], loops := true, apart := false, laid := [("unicode.White_Space", laid_unicode_White_Space), ("strings.asciiSpace", laid_strings_asciiSpace)] }
def UnifyEquatesSaid : Prop := unifyEquatesRow.holds Tryz.pinned (OpenSpec.ofChange unifyEquatesSpec)

/-- ITS FALSE NEIGHBOUR: 'it returns false'. Refute it at one input. -/
def unifyEquatesWrong : ChangeSpec := { name := "unifyEquates", fn := fun _ => fun
  | [d1, d2] => { results := [.lit (.bool false)], args := [d1, d2] }
  | _ => none }
def UnifyEquatesWrongFalsely : Prop := unifyEquatesRow.holds Tryz.pinned (OpenSpec.ofChange unifyEquatesWrong)

/-- 'heartwoodlaw06.RewriteNormals': WHATEVER THE INPUT: true; the input reads as it did. -/
def rewriteNormalsSpec : ChangeSpec := { name := "rewriteNormals", fn := fun _ => fun
  | [d1, d2, d3] => { results := [.lit (.bool true)], args := [d1, d2, d3] }
  | _ => none }
def rewriteNormalsRow : OpenClaim := { program := "ytlkcjmaiahnodaagreatdoor", sum := "65dda437bf80a22db37fc548ed09e1f9957fc2eed485cc463f1b7211816320f2", func := "heartwood/heartwoodlaw06.RewriteNormals", spec := "rewriteNormals", inPlace := ["internal/bytealg.abigen_runtime_cmpstring"], unfollowed := true, recurses := true, named := ["strings.asciiSpace", "unicode.White_Space"], loops := true, apart := false, laid := [("unicode.White_Space", laid_unicode_White_Space), ("strings.asciiSpace", laid_strings_asciiSpace)] }
def RewriteNormalsSaid : Prop := rewriteNormalsRow.holds Tryz.pinned (OpenSpec.ofChange rewriteNormalsSpec)

/-- ITS FALSE NEIGHBOUR: 'it returns false'. Refute it at one input. -/
def rewriteNormalsWrong : ChangeSpec := { name := "rewriteNormals", fn := fun _ => fun
  | [d1, d2, d3] => { results := [.lit (.bool false)], args := [d1, d2, d3] }
  | _ => none }
def RewriteNormalsWrongFalsely : Prop := rewriteNormalsRow.holds Tryz.pinned (OpenSpec.ofChange rewriteNormalsWrong)

/-- 'heartwoodlaw06.RewriteReplays': WHATEVER THE INPUT: true; the input reads as it did. -/
def rewriteReplaysSpec : ChangeSpec := { name := "rewriteReplays", fn := fun _ => fun
  | [d1, d2, d3] => { results := [.lit (.bool true)], args := [d1, d2, d3] }
  | _ => none }
def rewriteReplaysRow : OpenClaim := { program := "ytlkcjmaiahnodaagreatdoor", sum := "65dda437bf80a22db37fc548ed09e1f9957fc2eed485cc463f1b7211816320f2", func := "heartwood/heartwoodlaw06.RewriteReplays", spec := "rewriteReplays", inPlace := ["internal/bytealg.abigen_runtime_cmpstring"], unfollowed := true, recurses := true, named := ["strings.asciiSpace", "unicode.White_Space"], loops := true, apart := false, laid := [("unicode.White_Space", laid_unicode_White_Space), ("strings.asciiSpace", laid_strings_asciiSpace)] }
def RewriteReplaysSaid : Prop := rewriteReplaysRow.holds Tryz.pinned (OpenSpec.ofChange rewriteReplaysSpec)

/-- ITS FALSE NEIGHBOUR: 'it returns false'. Refute it at one input. -/
def rewriteReplaysWrong : ChangeSpec := { name := "rewriteReplays", fn := fun _ => fun
  | [d1, d2, d3] => { results := [.lit (.bool false)], args := [d1, d2, d3] }
  | _ => none }
def RewriteReplaysWrongFalsely : Prop := rewriteReplaysRow.holds Tryz.pinned (OpenSpec.ofChange rewriteReplaysWrong)

/-- 'heartwoodlaw06.RewriteSteps': WHATEVER THE INPUT: true; the input reads as it did. -/
def rewriteStepsSpec : ChangeSpec := { name := "rewriteSteps", fn := fun _ => fun
  | [d1, d2, d3] => { results := [.lit (.bool true)], args := [d1, d2, d3] }
  | _ => none }
def rewriteStepsRow : OpenClaim := { program := "ytlkcjmaiahnodaagreatdoor", sum := "65dda437bf80a22db37fc548ed09e1f9957fc2eed485cc463f1b7211816320f2", func := "heartwood/heartwoodlaw06.RewriteSteps", spec := "rewriteSteps", inPlace := ["internal/bytealg.abigen_runtime_cmpstring"], unfollowed := true, recurses := true, named := ["strings.asciiSpace", "unicode.White_Space"], loops := true, apart := false, laid := [("unicode.White_Space", laid_unicode_White_Space), ("strings.asciiSpace", laid_strings_asciiSpace)] }
def RewriteStepsSaid : Prop := rewriteStepsRow.holds Tryz.pinned (OpenSpec.ofChange rewriteStepsSpec)

/-- ITS FALSE NEIGHBOUR: 'it returns false'. Refute it at one input. -/
def rewriteStepsWrong : ChangeSpec := { name := "rewriteSteps", fn := fun _ => fun
  | [d1, d2, d3] => { results := [.lit (.bool false)], args := [d1, d2, d3] }
  | _ => none }
def RewriteStepsWrongFalsely : Prop := rewriteStepsRow.holds Tryz.pinned (OpenSpec.ofChange rewriteStepsWrong)

/-- 'heartwoodlaw06.RewriteEnds': WHATEVER THE INPUT: true; the input reads as it did. -/
def rewriteEndsSpec : ChangeSpec := { name := "rewriteEnds", fn := fun _ => fun
  | [d1, d2, d3, d4] => { results := [.lit (.bool true)], args := [d1, d2, d3, d4] }
  | _ => none }
def rewriteEndsRow : OpenClaim := { program := "ytlkcjmaiahnodaagreatdoor", sum := "65dda437bf80a22db37fc548ed09e1f9957fc2eed485cc463f1b7211816320f2", func := "heartwood/heartwoodlaw06.RewriteEnds", spec := "rewriteEnds", inPlace := ["internal/bytealg.abigen_runtime_cmpstring"], unfollowed := true, recurses := true, named := ["strings.asciiSpace", "unicode.White_Space"], loops := true, apart := false, laid := [("unicode.White_Space", laid_unicode_White_Space), ("strings.asciiSpace", laid_strings_asciiSpace)] }
def RewriteEndsSaid : Prop := rewriteEndsRow.holds Tryz.pinned (OpenSpec.ofChange rewriteEndsSpec)

/-- ITS FALSE NEIGHBOUR: 'it returns false'. Refute it at one input. -/
def rewriteEndsWrong : ChangeSpec := { name := "rewriteEnds", fn := fun _ => fun
  | [d1, d2, d3, d4] => { results := [.lit (.bool false)], args := [d1, d2, d3, d4] }
  | _ => none }
def RewriteEndsWrongFalsely : Prop := rewriteEndsRow.holds Tryz.pinned (OpenSpec.ofChange rewriteEndsWrong)

/- THE SECOND FORM. 'bulk': how many values and letters a reading holds, each counted each time it is reached (what is shared counts as often as it is met; a slice's spare places count too). A statement '..UptoSaid' is the law's where the arguments, and the package variables that the reading takes, are together of bulk at most 1048576: NARROWER than '..Said'. Prove '..Said' where nothing that the law and all that it calls make is longer than what came in: it says more and counts as full. Else prove '..UptoSaid'. A law counts once. -/
mutual
def uptoBulk {H : Type} : DataW H → Nat
  | .lit (.string bytes) => bytes.length + 1
  | .lit _ => 1
  | .nil => 1
  | .ptr d => uptoBulk d + 1
  | .slice elems spare => uptoBulkAll elems + uptoBulkAll spare + 1
  | .agg parts => uptoBulkAll parts + 1
  | .iface _ d => uptoBulk d + 1
  | .map entries => uptoBulkEntries entries + 1
  | .held _ => 1
def uptoBulkAll {H : Type} : List (DataW H) → Nat
  | [] => 0
  | d :: r => uptoBulk d + uptoBulkAll r
def uptoBulkEntries {H : Type} : List (Lit × DataW H) → Nat
  | [] => 0
  | x :: r => uptoBulkEntry x + uptoBulkEntries r
def uptoBulkEntry {H : Type} : Lit × DataW H → Nat
  | (.string bytes, d) => bytes.length + uptoBulk d + 1
  | (_, d) => uptoBulk d + 1
 end
def uptoSmall : (H : Type) → List (DataW H) → Bool := fun _ ds => decide (uptoBulkAll ds ≤ 1048576)
def OpenSpec.upto (s : _root_.Go.ChangeSpec) : _root_.Go.OpenSpec := { _root_.Go.OpenSpec.ofChange s with cond := some uptoSmall }

/-- 'heartwoodlaw05.UnifyMatches', WHERE WHAT IT READS IS OF BULK AT MOST 1048576: true; the input reads as it did. -/
def unifyMatchesUptoRow : OpenClaim := { program := "ytlkcjmaiahnodaagreatdoor", sum := "65dda437bf80a22db37fc548ed09e1f9957fc2eed485cc463f1b7211816320f2", func := "heartwood/heartwoodlaw05.UnifyMatches", spec := "unifyMatches", inPlace := ["internal/bytealg.abigen_runtime_cmpstring"], unfollowed := true, recurses := true, named := ["strings.asciiSpace", "unicode.White_Space"], loops := true, apart := false, laid := [("unicode.White_Space", laid_unicode_White_Space), ("strings.asciiSpace", laid_strings_asciiSpace)], narrowed := true }
def UnifyMatchesUptoSaid : Prop := unifyMatchesUptoRow.holds Tryz.pinned (OpenSpec.upto unifyMatchesSpec)

/-- 'heartwoodlaw05.UnifyRenames', WHERE WHAT IT READS IS OF BULK AT MOST 1048576: true; the input reads as it did. -/
def unifyRenamesUptoRow : OpenClaim := { program := "ytlkcjmaiahnodaagreatdoor", sum := "65dda437bf80a22db37fc548ed09e1f9957fc2eed485cc463f1b7211816320f2", func := "heartwood/heartwoodlaw05.UnifyRenames", spec := "unifyRenames", inPlace := ["internal/bytealg.abigen_runtime_cmpstring"], unfollowed := true, recurses := true, named := ["strings.asciiSpace", "unicode.White_Space"], loops := true, apart := false, laid := [("unicode.White_Space", laid_unicode_White_Space), ("strings.asciiSpace", laid_strings_asciiSpace)], narrowed := true }
def UnifyRenamesUptoSaid : Prop := unifyRenamesUptoRow.holds Tryz.pinned (OpenSpec.upto unifyRenamesSpec)

/-- 'heartwoodlaw05.UnifyApplies', WHERE WHAT IT READS IS OF BULK AT MOST 1048576: true; the input reads as it did. -/
def unifyAppliesUptoRow : OpenClaim := { program := "ytlkcjmaiahnodaagreatdoor", sum := "65dda437bf80a22db37fc548ed09e1f9957fc2eed485cc463f1b7211816320f2", func := "heartwood/heartwoodlaw05.UnifyApplies", spec := "unifyApplies", inPlace := ["internal/bytealg.abigen_runtime_cmpstring"], unfollowed := true, recurses := true, named := ["strings.asciiSpace", "unicode.White_Space"], loops := true, apart := false, laid := [("unicode.White_Space", laid_unicode_White_Space), ("strings.asciiSpace", laid_strings_asciiSpace)], narrowed := true }
def UnifyAppliesUptoSaid : Prop := unifyAppliesUptoRow.holds Tryz.pinned (OpenSpec.upto unifyAppliesSpec)

/-- 'heartwoodlaw05.UnifyComposes', WHERE WHAT IT READS IS OF BULK AT MOST 1048576: true; the input reads as it did. -/
def unifyComposesUptoRow : OpenClaim := { program := "ytlkcjmaiahnodaagreatdoor", sum := "65dda437bf80a22db37fc548ed09e1f9957fc2eed485cc463f1b7211816320f2", func := "heartwood/heartwoodlaw05.UnifyComposes", spec := "unifyComposes", inPlace := ["internal/bytealg.abigen_runtime_cmpstring"], unfollowed := true, recurses := true, named := ["strings.asciiSpace", "unicode.White_Space"], loops := true, apart := false, laid := [("unicode.White_Space", laid_unicode_White_Space), ("strings.asciiSpace", laid_strings_asciiSpace)], narrowed := true }
def UnifyComposesUptoSaid : Prop := unifyComposesUptoRow.holds Tryz.pinned (OpenSpec.upto unifyComposesSpec)

/-- 'heartwoodlaw05.UnifyChains', WHERE WHAT IT READS IS OF BULK AT MOST 1048576: true; the input reads as it did. -/
def unifyChainsUptoRow : OpenClaim := { program := "ytlkcjmaiahnodaagreatdoor", sum := "65dda437bf80a22db37fc548ed09e1f9957fc2eed485cc463f1b7211816320f2", func := "heartwood/heartwoodlaw05.UnifyChains", spec := "unifyChains", inPlace := ["internal/bytealg.abigen_runtime_cmpstring"], unfollowed := true, recurses := true, named := ["strings.asciiSpace", "unicode.White_Space"], loops := true, apart := false, laid := [("unicode.White_Space", laid_unicode_White_Space), ("strings.asciiSpace", laid_strings_asciiSpace)], narrowed := true }
def UnifyChainsUptoSaid : Prop := unifyChainsUptoRow.holds Tryz.pinned (OpenSpec.upto unifyChainsSpec)

/-- 'heartwoodlaw05.UnifyEquates', WHERE WHAT IT READS IS OF BULK AT MOST 1048576: true; the input reads as it did. -/
def unifyEquatesUptoRow : OpenClaim := { program := "ytlkcjmaiahnodaagreatdoor", sum := "65dda437bf80a22db37fc548ed09e1f9957fc2eed485cc463f1b7211816320f2", func := "heartwood/heartwoodlaw05.UnifyEquates", spec := "unifyEquates", inPlace := ["internal/bytealg.abigen_runtime_cmpstring"], unfollowed := true, recurses := true, named := ["strings.asciiSpace", "unicode.White_Space"], loops := true, apart := false, laid := [("unicode.White_Space", laid_unicode_White_Space), ("strings.asciiSpace", laid_strings_asciiSpace)], narrowed := true }
def UnifyEquatesUptoSaid : Prop := unifyEquatesUptoRow.holds Tryz.pinned (OpenSpec.upto unifyEquatesSpec)

/-- 'heartwoodlaw06.RewriteNormals', WHERE WHAT IT READS IS OF BULK AT MOST 1048576: true; the input reads as it did. -/
def rewriteNormalsUptoRow : OpenClaim := { program := "ytlkcjmaiahnodaagreatdoor", sum := "65dda437bf80a22db37fc548ed09e1f9957fc2eed485cc463f1b7211816320f2", func := "heartwood/heartwoodlaw06.RewriteNormals", spec := "rewriteNormals", inPlace := ["internal/bytealg.abigen_runtime_cmpstring"], unfollowed := true, recurses := true, named := ["strings.asciiSpace", "unicode.White_Space"], loops := true, apart := false, laid := [("unicode.White_Space", laid_unicode_White_Space), ("strings.asciiSpace", laid_strings_asciiSpace)], narrowed := true }
def RewriteNormalsUptoSaid : Prop := rewriteNormalsUptoRow.holds Tryz.pinned (OpenSpec.upto rewriteNormalsSpec)

/-- 'heartwoodlaw06.RewriteReplays', WHERE WHAT IT READS IS OF BULK AT MOST 1048576: true; the input reads as it did. -/
def rewriteReplaysUptoRow : OpenClaim := { program := "ytlkcjmaiahnodaagreatdoor", sum := "65dda437bf80a22db37fc548ed09e1f9957fc2eed485cc463f1b7211816320f2", func := "heartwood/heartwoodlaw06.RewriteReplays", spec := "rewriteReplays", inPlace := ["internal/bytealg.abigen_runtime_cmpstring"], unfollowed := true, recurses := true, named := ["strings.asciiSpace", "unicode.White_Space"], loops := true, apart := false, laid := [("unicode.White_Space", laid_unicode_White_Space), ("strings.asciiSpace", laid_strings_asciiSpace)], narrowed := true }
def RewriteReplaysUptoSaid : Prop := rewriteReplaysUptoRow.holds Tryz.pinned (OpenSpec.upto rewriteReplaysSpec)

/-- 'heartwoodlaw06.RewriteSteps', WHERE WHAT IT READS IS OF BULK AT MOST 1048576: true; the input reads as it did. -/
def rewriteStepsUptoRow : OpenClaim := { program := "ytlkcjmaiahnodaagreatdoor", sum := "65dda437bf80a22db37fc548ed09e1f9957fc2eed485cc463f1b7211816320f2", func := "heartwood/heartwoodlaw06.RewriteSteps", spec := "rewriteSteps", inPlace := ["internal/bytealg.abigen_runtime_cmpstring"], unfollowed := true, recurses := true, named := ["strings.asciiSpace", "unicode.White_Space"], loops := true, apart := false, laid := [("unicode.White_Space", laid_unicode_White_Space), ("strings.asciiSpace", laid_strings_asciiSpace)], narrowed := true }
def RewriteStepsUptoSaid : Prop := rewriteStepsUptoRow.holds Tryz.pinned (OpenSpec.upto rewriteStepsSpec)

/-- 'heartwoodlaw06.RewriteEnds', WHERE WHAT IT READS IS OF BULK AT MOST 1048576: true; the input reads as it did. -/
def rewriteEndsUptoRow : OpenClaim := { program := "ytlkcjmaiahnodaagreatdoor", sum := "65dda437bf80a22db37fc548ed09e1f9957fc2eed485cc463f1b7211816320f2", func := "heartwood/heartwoodlaw06.RewriteEnds", spec := "rewriteEnds", inPlace := ["internal/bytealg.abigen_runtime_cmpstring"], unfollowed := true, recurses := true, named := ["strings.asciiSpace", "unicode.White_Space"], loops := true, apart := false, laid := [("unicode.White_Space", laid_unicode_White_Space), ("strings.asciiSpace", laid_strings_asciiSpace)], narrowed := true }
def RewriteEndsUptoSaid : Prop := rewriteEndsUptoRow.holds Tryz.pinned (OpenSpec.upto rewriteEndsSpec)

end Rows
end Go.Proofs.YtlkcjmaiahnodaaGreatDoor
