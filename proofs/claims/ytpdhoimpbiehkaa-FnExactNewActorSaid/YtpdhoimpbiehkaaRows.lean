/-
  No cell of these rows narrows 'for every input' (looked for: loops, veiled, ifaces, maps, wideKeys, modest, calm, conditions, laid).
  DERIVED. THE GIVEN ROWS OF THIS SEAT. 28 by the template 'for every input the law returns true; each argument reads behind the call as it read before'; 0 by the template 'total and deterministic' (their statements: YtpdhoimpbiehkaaTotals.lean).
  GIVEN WITH THE SEED: the statements are not yours to turn. If you find one false, say at which input.
  Laid BY PROGRAM, IN A SANDBOX (cutbox-rows.mjs): the forced cells as the released guide's own fill.sh prints them over the translation 57dc13f1bbc03b32… (all of the seat's roots in one cut). By AI agents, Wed Nov 11 2026. No macro, syntax, notation, axiom, sorry.
-/
import Derived.Test.YtpdhoimpbiehkaaChecked
import GoSem.Claim
import GoSem.ClaimJoined
import GoSem.ClaimMapViews
import Derived.JoinedTies
import Derived.KernelRfl
namespace Go.Proofs.Ytpdhoimpbiehkaa
/- THE CELL 'sum', in the pinned program and in every row, IS THE sha256 OF THE DUMP (.gsa) THAT YtpdhoimpbiehkaaProg.lean LOADS. Nothing in Lean hashes anything: it is a label: what it is worth is what the hold of that sum in a sandbox is worth. -/
noncomputable def Try.pinned : Pinned := { name := "ytpdhoimpbiehkaa", sum := "57dc13f1bbc03b32b73c8d0645f22f975f13a5f76c2b80eb378e4a6c7937a692", checked := Try.checked }
namespace Rows
def none {H : Type} : Left H := { results := [], args := [] }

/-- 'laws.FnExactConstants': WHATEVER THE INPUT: true; the input reads as it did. -/
def fnExactConstantsSpec : ChangeSpec := { name := "fnExactConstants", fn := fun _ => fun
  | [] => { results := [.lit (.bool true)], args := [] }
  | _ => none }
def fnExactConstantsRow : OpenClaim := { program := "ytpdhoimpbiehkaa", sum := "57dc13f1bbc03b32b73c8d0645f22f975f13a5f76c2b80eb378e4a6c7937a692", func := "loop.example/g03224/laws.FnExactConstants", spec := "fnExactConstants", apart := false }
def FnExactConstantsSaid : Prop := fnExactConstantsRow.holds Try.pinned (OpenSpec.ofChange fnExactConstantsSpec)

/-- ITS FALSE NEIGHBOUR: 'it returns false'. Refute it at one input. -/
def fnExactConstantsWrong : ChangeSpec := { name := "fnExactConstants", fn := fun _ => fun
  | [] => { results := [.lit (.bool false)], args := [] }
  | _ => none }
def FnExactConstantsWrongFalsely : Prop := fnExactConstantsRow.holds Try.pinned (OpenSpec.ofChange fnExactConstantsWrong)

/-- 'laws.FnExactWrapToken': WHATEVER THE INPUT: true; the input reads as it did. -/
def fnExactWrapTokenSpec : ChangeSpec := { name := "fnExactWrapToken", fn := fun _ => fun
  | [d] => { results := [.lit (.bool true)], args := [d] }
  | _ => none }
def fnExactWrapTokenRow : OpenClaim := { program := "ytpdhoimpbiehkaa", sum := "57dc13f1bbc03b32b73c8d0645f22f975f13a5f76c2b80eb378e4a6c7937a692", func := "loop.example/g03224/laws.FnExactWrapToken", spec := "fnExactWrapToken", apart := false }
def FnExactWrapTokenSaid : Prop := fnExactWrapTokenRow.holds Try.pinned (OpenSpec.ofChange fnExactWrapTokenSpec)

/-- ITS FALSE NEIGHBOUR: 'it returns false'. Refute it at one input. -/
def fnExactWrapTokenWrong : ChangeSpec := { name := "fnExactWrapToken", fn := fun _ => fun
  | [d] => { results := [.lit (.bool false)], args := [d] }
  | _ => none }
def FnExactWrapTokenWrongFalsely : Prop := fnExactWrapTokenRow.holds Try.pinned (OpenSpec.ofChange fnExactWrapTokenWrong)

/-- 'laws.FnWrapped': WHATEVER THE INPUT: true; the input reads as it did. -/
def fnWrappedSpec : ChangeSpec := { name := "fnWrapped", fn := fun _ => fun
  | [d] => { results := [.lit (.bool true)], args := [d] }
  | _ => none }
def fnWrappedRow : OpenClaim := { program := "ytpdhoimpbiehkaa", sum := "57dc13f1bbc03b32b73c8d0645f22f975f13a5f76c2b80eb378e4a6c7937a692", func := "loop.example/g03224/laws.FnWrapped", spec := "fnWrapped", apart := false }
def FnWrappedSaid : Prop := fnWrappedRow.holds Try.pinned (OpenSpec.ofChange fnWrappedSpec)

/-- ITS FALSE NEIGHBOUR: 'it returns false'. Refute it at one input. -/
def fnWrappedWrong : ChangeSpec := { name := "fnWrapped", fn := fun _ => fun
  | [d] => { results := [.lit (.bool false)], args := [d] }
  | _ => none }
def FnWrappedWrongFalsely : Prop := fnWrappedRow.holds Try.pinned (OpenSpec.ofChange fnWrappedWrong)

/-- 'laws.FnExactIsStream': WHATEVER THE INPUT: true; the input reads as it did. -/
def fnExactIsStreamSpec : ChangeSpec := { name := "fnExactIsStream", fn := fun _ => fun
  | [d] => { results := [.lit (.bool true)], args := [d] }
  | _ => none }
def fnExactIsStreamRow : OpenClaim := { program := "ytpdhoimpbiehkaa", sum := "57dc13f1bbc03b32b73c8d0645f22f975f13a5f76c2b80eb378e4a6c7937a692", func := "loop.example/g03224/laws.FnExactIsStream", spec := "fnExactIsStream", unfollowed := true, recurses := true, apart := false }
def FnExactIsStreamSaid : Prop := fnExactIsStreamRow.holds Try.pinned (OpenSpec.ofChange fnExactIsStreamSpec)

/-- ITS FALSE NEIGHBOUR: 'it returns false'. Refute it at one input. -/
def fnExactIsStreamWrong : ChangeSpec := { name := "fnExactIsStream", fn := fun _ => fun
  | [d] => { results := [.lit (.bool false)], args := [d] }
  | _ => none }
def FnExactIsStreamWrongFalsely : Prop := fnExactIsStreamRow.holds Try.pinned (OpenSpec.ofChange fnExactIsStreamWrong)

/-- 'laws.FnExactIsPrefix': WHATEVER THE INPUT: true; the input reads as it did. -/
def fnExactIsPrefixSpec : ChangeSpec := { name := "fnExactIsPrefix", fn := fun _ => fun
  | [d1, d2] => { results := [.lit (.bool true)], args := [d1, d2] }
  | _ => none }
def fnExactIsPrefixRow : OpenClaim := { program := "ytpdhoimpbiehkaa", sum := "57dc13f1bbc03b32b73c8d0645f22f975f13a5f76c2b80eb378e4a6c7937a692", func := "loop.example/g03224/laws.FnExactIsPrefix", spec := "fnExactIsPrefix", unfollowed := true, recurses := true, apart := false }
def FnExactIsPrefixSaid : Prop := fnExactIsPrefixRow.holds Try.pinned (OpenSpec.ofChange fnExactIsPrefixSpec)

/-- ITS FALSE NEIGHBOUR: 'it returns false'. Refute it at one input. -/
def fnExactIsPrefixWrong : ChangeSpec := { name := "fnExactIsPrefix", fn := fun _ => fun
  | [d1, d2] => { results := [.lit (.bool false)], args := [d1, d2] }
  | _ => none }
def FnExactIsPrefixWrongFalsely : Prop := fnExactIsPrefixRow.holds Try.pinned (OpenSpec.ofChange fnExactIsPrefixWrong)

/-- 'laws.FnExactMeetStreams': WHATEVER THE INPUT: true; the input reads as it did. -/
def fnExactMeetStreamsSpec : ChangeSpec := { name := "fnExactMeetStreams", fn := fun _ => fun
  | [d1, d2] => { results := [.lit (.bool true)], args := [d1, d2] }
  | _ => none }
def fnExactMeetStreamsRow : OpenClaim := { program := "ytpdhoimpbiehkaa", sum := "57dc13f1bbc03b32b73c8d0645f22f975f13a5f76c2b80eb378e4a6c7937a692", func := "loop.example/g03224/laws.FnExactMeetStreams", spec := "fnExactMeetStreams", unfollowed := true, recurses := true, apart := false }
def FnExactMeetStreamsSaid : Prop := fnExactMeetStreamsRow.holds Try.pinned (OpenSpec.ofChange fnExactMeetStreamsSpec)

/-- ITS FALSE NEIGHBOUR: 'it returns false'. Refute it at one input. -/
def fnExactMeetStreamsWrong : ChangeSpec := { name := "fnExactMeetStreams", fn := fun _ => fun
  | [d1, d2] => { results := [.lit (.bool false)], args := [d1, d2] }
  | _ => none }
def FnExactMeetStreamsWrongFalsely : Prop := fnExactMeetStreamsRow.holds Try.pinned (OpenSpec.ofChange fnExactMeetStreamsWrong)

/-- 'laws.FnExactRouteStream': WHATEVER THE INPUT: true; the input reads as it did. -/
def fnExactRouteStreamSpec : ChangeSpec := { name := "fnExactRouteStream", fn := fun _ => fun
  | [d1, d2] => { results := [.lit (.bool true)], args := [d1, d2] }
  | _ => none }
def fnExactRouteStreamRow : OpenClaim := { program := "ytpdhoimpbiehkaa", sum := "57dc13f1bbc03b32b73c8d0645f22f975f13a5f76c2b80eb378e4a6c7937a692", func := "loop.example/g03224/laws.FnExactRouteStream", spec := "fnExactRouteStream", unfollowed := true, recurses := true, apart := false }
def FnExactRouteStreamSaid : Prop := fnExactRouteStreamRow.holds Try.pinned (OpenSpec.ofChange fnExactRouteStreamSpec)

/-- ITS FALSE NEIGHBOUR: 'it returns false'. Refute it at one input. -/
def fnExactRouteStreamWrong : ChangeSpec := { name := "fnExactRouteStream", fn := fun _ => fun
  | [d1, d2] => { results := [.lit (.bool false)], args := [d1, d2] }
  | _ => none }
def FnExactRouteStreamWrongFalsely : Prop := fnExactRouteStreamRow.holds Try.pinned (OpenSpec.ofChange fnExactRouteStreamWrong)

/-- 'laws.FnExactSplitStream': WHATEVER THE INPUT: true; the input reads as it did. -/
def fnExactSplitStreamSpec : ChangeSpec := { name := "fnExactSplitStream", fn := fun _ => fun
  | [d] => { results := [.lit (.bool true)], args := [d] }
  | _ => none }
def fnExactSplitStreamRow : OpenClaim := { program := "ytpdhoimpbiehkaa", sum := "57dc13f1bbc03b32b73c8d0645f22f975f13a5f76c2b80eb378e4a6c7937a692", func := "loop.example/g03224/laws.FnExactSplitStream", spec := "fnExactSplitStream", unfollowed := true, recurses := true, apart := false }
def FnExactSplitStreamSaid : Prop := fnExactSplitStreamRow.holds Try.pinned (OpenSpec.ofChange fnExactSplitStreamSpec)

/-- ITS FALSE NEIGHBOUR: 'it returns false'. Refute it at one input. -/
def fnExactSplitStreamWrong : ChangeSpec := { name := "fnExactSplitStream", fn := fun _ => fun
  | [d] => { results := [.lit (.bool false)], args := [d] }
  | _ => none }
def FnExactSplitStreamWrongFalsely : Prop := fnExactSplitStreamRow.holds Try.pinned (OpenSpec.ofChange fnExactSplitStreamWrong)

/-- 'laws.FnExactAlternateStreams': WHATEVER THE INPUT: true; the input reads as it did. -/
def fnExactAlternateStreamsSpec : ChangeSpec := { name := "fnExactAlternateStreams", fn := fun _ => fun
  | [d1, d2] => { results := [.lit (.bool true)], args := [d1, d2] }
  | _ => none }
def fnExactAlternateStreamsRow : OpenClaim := { program := "ytpdhoimpbiehkaa", sum := "57dc13f1bbc03b32b73c8d0645f22f975f13a5f76c2b80eb378e4a6c7937a692", func := "loop.example/g03224/laws.FnExactAlternateStreams", spec := "fnExactAlternateStreams", unfollowed := true, recurses := true, apart := false }
def FnExactAlternateStreamsSaid : Prop := fnExactAlternateStreamsRow.holds Try.pinned (OpenSpec.ofChange fnExactAlternateStreamsSpec)

/-- ITS FALSE NEIGHBOUR: 'it returns false'. Refute it at one input. -/
def fnExactAlternateStreamsWrong : ChangeSpec := { name := "fnExactAlternateStreams", fn := fun _ => fun
  | [d1, d2] => { results := [.lit (.bool false)], args := [d1, d2] }
  | _ => none }
def FnExactAlternateStreamsWrongFalsely : Prop := fnExactAlternateStreamsRow.holds Try.pinned (OpenSpec.ofChange fnExactAlternateStreamsWrong)

/-- 'laws.FnExactAppendStream': WHATEVER THE INPUT: true; the input reads as it did. -/
def fnExactAppendStreamSpec : ChangeSpec := { name := "fnExactAppendStream", fn := fun _ => fun
  | [d1, d2] => { results := [.lit (.bool true)], args := [d1, d2] }
  | _ => none }
def fnExactAppendStreamRow : OpenClaim := { program := "ytpdhoimpbiehkaa", sum := "57dc13f1bbc03b32b73c8d0645f22f975f13a5f76c2b80eb378e4a6c7937a692", func := "loop.example/g03224/laws.FnExactAppendStream", spec := "fnExactAppendStream", unfollowed := true, recurses := true, apart := false }
def FnExactAppendStreamSaid : Prop := fnExactAppendStreamRow.holds Try.pinned (OpenSpec.ofChange fnExactAppendStreamSpec)

/-- ITS FALSE NEIGHBOUR: 'it returns false'. Refute it at one input. -/
def fnExactAppendStreamWrong : ChangeSpec := { name := "fnExactAppendStream", fn := fun _ => fun
  | [d1, d2] => { results := [.lit (.bool false)], args := [d1, d2] }
  | _ => none }
def FnExactAppendStreamWrongFalsely : Prop := fnExactAppendStreamRow.holds Try.pinned (OpenSpec.ofChange fnExactAppendStreamWrong)

/-- 'laws.FnExactStepsOf': WHATEVER THE INPUT: true; the input reads as it did. -/
def fnExactStepsOfSpec : ChangeSpec := { name := "fnExactStepsOf", fn := fun _ => fun
  | [d] => { results := [.lit (.bool true)], args := [d] }
  | _ => none }
def fnExactStepsOfRow : OpenClaim := { program := "ytpdhoimpbiehkaa", sum := "57dc13f1bbc03b32b73c8d0645f22f975f13a5f76c2b80eb378e4a6c7937a692", func := "loop.example/g03224/laws.FnExactStepsOf", spec := "fnExactStepsOf", unfollowed := true, recurses := true, apart := false }
def FnExactStepsOfSaid : Prop := fnExactStepsOfRow.holds Try.pinned (OpenSpec.ofChange fnExactStepsOfSpec)

/-- ITS FALSE NEIGHBOUR: 'it returns false'. Refute it at one input. -/
def fnExactStepsOfWrong : ChangeSpec := { name := "fnExactStepsOf", fn := fun _ => fun
  | [d] => { results := [.lit (.bool false)], args := [d] }
  | _ => none }
def FnExactStepsOfWrongFalsely : Prop := fnExactStepsOfRow.holds Try.pinned (OpenSpec.ofChange fnExactStepsOfWrong)

/-- 'laws.FnExactSumsOf': WHATEVER THE INPUT: true; the input reads as it did. -/
def fnExactSumsOfSpec : ChangeSpec := { name := "fnExactSumsOf", fn := fun _ => fun
  | [d] => { results := [.lit (.bool true)], args := [d] }
  | _ => none }
def fnExactSumsOfRow : OpenClaim := { program := "ytpdhoimpbiehkaa", sum := "57dc13f1bbc03b32b73c8d0645f22f975f13a5f76c2b80eb378e4a6c7937a692", func := "loop.example/g03224/laws.FnExactSumsOf", spec := "fnExactSumsOf", unfollowed := true, recurses := true, apart := false }
def FnExactSumsOfSaid : Prop := fnExactSumsOfRow.holds Try.pinned (OpenSpec.ofChange fnExactSumsOfSpec)

/-- ITS FALSE NEIGHBOUR: 'it returns false'. Refute it at one input. -/
def fnExactSumsOfWrong : ChangeSpec := { name := "fnExactSumsOf", fn := fun _ => fun
  | [d] => { results := [.lit (.bool false)], args := [d] }
  | _ => none }
def FnExactSumsOfWrongFalsely : Prop := fnExactSumsOfRow.holds Try.pinned (OpenSpec.ofChange fnExactSumsOfWrong)

/-- 'laws.FnExactRestOf': WHATEVER THE INPUT: true; the input reads as it did. -/
def fnExactRestOfSpec : ChangeSpec := { name := "fnExactRestOf", fn := fun _ => fun
  | [d1, d2] => { results := [.lit (.bool true)], args := [d1, d2] }
  | _ => none }
def fnExactRestOfRow : OpenClaim := { program := "ytpdhoimpbiehkaa", sum := "57dc13f1bbc03b32b73c8d0645f22f975f13a5f76c2b80eb378e4a6c7937a692", func := "loop.example/g03224/laws.FnExactRestOf", spec := "fnExactRestOf", unfollowed := true, recurses := true, apart := false }
def FnExactRestOfSaid : Prop := fnExactRestOfRow.holds Try.pinned (OpenSpec.ofChange fnExactRestOfSpec)

/-- ITS FALSE NEIGHBOUR: 'it returns false'. Refute it at one input. -/
def fnExactRestOfWrong : ChangeSpec := { name := "fnExactRestOf", fn := fun _ => fun
  | [d1, d2] => { results := [.lit (.bool false)], args := [d1, d2] }
  | _ => none }
def FnExactRestOfWrongFalsely : Prop := fnExactRestOfRow.holds Try.pinned (OpenSpec.ofChange fnExactRestOfWrong)

/-- 'laws.FnExactJoinStreams': WHATEVER THE INPUT: true; the input reads as it did. -/
def fnExactJoinStreamsSpec : ChangeSpec := { name := "fnExactJoinStreams", fn := fun _ => fun
  | [d1, d2] => { results := [.lit (.bool true)], args := [d1, d2] }
  | _ => none }
def fnExactJoinStreamsRow : OpenClaim := { program := "ytpdhoimpbiehkaa", sum := "57dc13f1bbc03b32b73c8d0645f22f975f13a5f76c2b80eb378e4a6c7937a692", func := "loop.example/g03224/laws.FnExactJoinStreams", spec := "fnExactJoinStreams", unfollowed := true, recurses := true, apart := false }
def FnExactJoinStreamsSaid : Prop := fnExactJoinStreamsRow.holds Try.pinned (OpenSpec.ofChange fnExactJoinStreamsSpec)

/-- ITS FALSE NEIGHBOUR: 'it returns false'. Refute it at one input. -/
def fnExactJoinStreamsWrong : ChangeSpec := { name := "fnExactJoinStreams", fn := fun _ => fun
  | [d1, d2] => { results := [.lit (.bool false)], args := [d1, d2] }
  | _ => none }
def FnExactJoinStreamsWrongFalsely : Prop := fnExactJoinStreamsRow.holds Try.pinned (OpenSpec.ofChange fnExactJoinStreamsWrong)

/-- 'laws.FnExactHoldStream': WHATEVER THE INPUT: true; the input reads as it did. -/
def fnExactHoldStreamSpec : ChangeSpec := { name := "fnExactHoldStream", fn := fun _ => fun
  | [d1, d2] => { results := [.lit (.bool true)], args := [d1, d2] }
  | _ => none }
def fnExactHoldStreamRow : OpenClaim := { program := "ytpdhoimpbiehkaa", sum := "57dc13f1bbc03b32b73c8d0645f22f975f13a5f76c2b80eb378e4a6c7937a692", func := "loop.example/g03224/laws.FnExactHoldStream", spec := "fnExactHoldStream", unfollowed := true, recurses := true, apart := false }
def FnExactHoldStreamSaid : Prop := fnExactHoldStreamRow.holds Try.pinned (OpenSpec.ofChange fnExactHoldStreamSpec)

/-- ITS FALSE NEIGHBOUR: 'it returns false'. Refute it at one input. -/
def fnExactHoldStreamWrong : ChangeSpec := { name := "fnExactHoldStream", fn := fun _ => fun
  | [d1, d2] => { results := [.lit (.bool false)], args := [d1, d2] }
  | _ => none }
def FnExactHoldStreamWrongFalsely : Prop := fnExactHoldStreamRow.holds Try.pinned (OpenSpec.ofChange fnExactHoldStreamWrong)

/-- 'laws.FnExactIsProgram': WHATEVER THE INPUT: true; the input reads as it did. -/
def fnExactIsProgramSpec : ChangeSpec := { name := "fnExactIsProgram", fn := fun _ => fun
  | [d] => { results := [.lit (.bool true)], args := [d] }
  | _ => none }
def fnExactIsProgramRow : OpenClaim := { program := "ytpdhoimpbiehkaa", sum := "57dc13f1bbc03b32b73c8d0645f22f975f13a5f76c2b80eb378e4a6c7937a692", func := "loop.example/g03224/laws.FnExactIsProgram", spec := "fnExactIsProgram", unfollowed := true, recurses := true, apart := false }
def FnExactIsProgramSaid : Prop := fnExactIsProgramRow.holds Try.pinned (OpenSpec.ofChange fnExactIsProgramSpec)

/-- ITS FALSE NEIGHBOUR: 'it returns false'. Refute it at one input. -/
def fnExactIsProgramWrong : ChangeSpec := { name := "fnExactIsProgram", fn := fun _ => fun
  | [d] => { results := [.lit (.bool false)], args := [d] }
  | _ => none }
def FnExactIsProgramWrongFalsely : Prop := fnExactIsProgramRow.holds Try.pinned (OpenSpec.ofChange fnExactIsProgramWrong)

/-- 'laws.FnExactSampleProgram': WHATEVER THE INPUT: true; the input reads as it did. -/
def fnExactSampleProgramSpec : ChangeSpec := { name := "fnExactSampleProgram", fn := fun _ => fun
  | [d] => { results := [.lit (.bool true)], args := [d] }
  | _ => none }
def fnExactSampleProgramRow : OpenClaim := { program := "ytpdhoimpbiehkaa", sum := "57dc13f1bbc03b32b73c8d0645f22f975f13a5f76c2b80eb378e4a6c7937a692", func := "loop.example/g03224/laws.FnExactSampleProgram", spec := "fnExactSampleProgram", unfollowed := true, recurses := true, apart := false }
def FnExactSampleProgramSaid : Prop := fnExactSampleProgramRow.holds Try.pinned (OpenSpec.ofChange fnExactSampleProgramSpec)

/-- ITS FALSE NEIGHBOUR: 'it returns false'. Refute it at one input. -/
def fnExactSampleProgramWrong : ChangeSpec := { name := "fnExactSampleProgram", fn := fun _ => fun
  | [d] => { results := [.lit (.bool false)], args := [d] }
  | _ => none }
def FnExactSampleProgramWrongFalsely : Prop := fnExactSampleProgramRow.holds Try.pinned (OpenSpec.ofChange fnExactSampleProgramWrong)

/-- 'laws.FnStreams': WHATEVER THE INPUT: true; the input reads as it did. -/
def fnStreamsSpec : ChangeSpec := { name := "fnStreams", fn := fun _ => fun
  | [d] => { results := [.lit (.bool true)], args := [d] }
  | _ => none }
def fnStreamsRow : OpenClaim := { program := "ytpdhoimpbiehkaa", sum := "57dc13f1bbc03b32b73c8d0645f22f975f13a5f76c2b80eb378e4a6c7937a692", func := "loop.example/g03224/laws.FnStreams", spec := "fnStreams", unfollowed := true, recurses := true, apart := false }
def FnStreamsSaid : Prop := fnStreamsRow.holds Try.pinned (OpenSpec.ofChange fnStreamsSpec)

/-- ITS FALSE NEIGHBOUR: 'it returns false'. Refute it at one input. -/
def fnStreamsWrong : ChangeSpec := { name := "fnStreams", fn := fun _ => fun
  | [d] => { results := [.lit (.bool false)], args := [d] }
  | _ => none }
def FnStreamsWrongFalsely : Prop := fnStreamsRow.holds Try.pinned (OpenSpec.ofChange fnStreamsWrong)

/-- 'laws.FnTokens': WHATEVER THE INPUT: true; the input reads as it did. -/
def fnTokensSpec : ChangeSpec := { name := "fnTokens", fn := fun _ => fun
  | [d] => { results := [.lit (.bool true)], args := [d] }
  | _ => none }
def fnTokensRow : OpenClaim := { program := "ytpdhoimpbiehkaa", sum := "57dc13f1bbc03b32b73c8d0645f22f975f13a5f76c2b80eb378e4a6c7937a692", func := "loop.example/g03224/laws.FnTokens", spec := "fnTokens", unfollowed := true, recurses := true, apart := false }
def FnTokensSaid : Prop := fnTokensRow.holds Try.pinned (OpenSpec.ofChange fnTokensSpec)

/-- ITS FALSE NEIGHBOUR: 'it returns false'. Refute it at one input. -/
def fnTokensWrong : ChangeSpec := { name := "fnTokens", fn := fun _ => fun
  | [d] => { results := [.lit (.bool false)], args := [d] }
  | _ => none }
def FnTokensWrongFalsely : Prop := fnTokensRow.holds Try.pinned (OpenSpec.ofChange fnTokensWrong)

/-- 'laws.FnSums': WHATEVER THE INPUT: true; the input reads as it did. -/
def fnSumsSpec : ChangeSpec := { name := "fnSums", fn := fun _ => fun
  | [d] => { results := [.lit (.bool true)], args := [d] }
  | _ => none }
def fnSumsRow : OpenClaim := { program := "ytpdhoimpbiehkaa", sum := "57dc13f1bbc03b32b73c8d0645f22f975f13a5f76c2b80eb378e4a6c7937a692", func := "loop.example/g03224/laws.FnSums", spec := "fnSums", unfollowed := true, recurses := true, apart := false }
def FnSumsSaid : Prop := fnSumsRow.holds Try.pinned (OpenSpec.ofChange fnSumsSpec)

/-- ITS FALSE NEIGHBOUR: 'it returns false'. Refute it at one input. -/
def fnSumsWrong : ChangeSpec := { name := "fnSums", fn := fun _ => fun
  | [d] => { results := [.lit (.bool false)], args := [d] }
  | _ => none }
def FnSumsWrongFalsely : Prop := fnSumsRow.holds Try.pinned (OpenSpec.ofChange fnSumsWrong)

/-- 'laws.FnExactIsActor': WHATEVER THE INPUT: true; the input reads as it did. -/
def fnExactIsActorSpec : ChangeSpec := { name := "fnExactIsActor", fn := fun _ => fun
  | [d1, d2] => { results := [.lit (.bool true)], args := [d1, d2] }
  | _ => none }
def fnExactIsActorRow : OpenClaim := { program := "ytpdhoimpbiehkaa", sum := "57dc13f1bbc03b32b73c8d0645f22f975f13a5f76c2b80eb378e4a6c7937a692", func := "loop.example/g03224/laws.FnExactIsActor", spec := "fnExactIsActor", unfollowed := true, recurses := true, apart := false }
def FnExactIsActorSaid : Prop := fnExactIsActorRow.holds Try.pinned (OpenSpec.ofChange fnExactIsActorSpec)

/-- ITS FALSE NEIGHBOUR: 'it returns false'. Refute it at one input. -/
def fnExactIsActorWrong : ChangeSpec := { name := "fnExactIsActor", fn := fun _ => fun
  | [d1, d2] => { results := [.lit (.bool false)], args := [d1, d2] }
  | _ => none }
def FnExactIsActorWrongFalsely : Prop := fnExactIsActorRow.holds Try.pinned (OpenSpec.ofChange fnExactIsActorWrong)

/-- 'laws.FnExactNewActor': WHATEVER THE INPUT: true; the input reads as it did. -/
def fnExactNewActorSpec : ChangeSpec := { name := "fnExactNewActor", fn := fun _ => fun
  | [d] => { results := [.lit (.bool true)], args := [d] }
  | _ => none }
def fnExactNewActorRow : OpenClaim := { program := "ytpdhoimpbiehkaa", sum := "57dc13f1bbc03b32b73c8d0645f22f975f13a5f76c2b80eb378e4a6c7937a692", func := "loop.example/g03224/laws.FnExactNewActor", spec := "fnExactNewActor", unfollowed := true, recurses := true, apart := false }
def FnExactNewActorSaid : Prop := fnExactNewActorRow.holds Try.pinned (OpenSpec.ofChange fnExactNewActorSpec)

/-- ITS FALSE NEIGHBOUR: 'it returns false'. Refute it at one input. -/
def fnExactNewActorWrong : ChangeSpec := { name := "fnExactNewActor", fn := fun _ => fun
  | [d] => { results := [.lit (.bool false)], args := [d] }
  | _ => none }
def FnExactNewActorWrongFalsely : Prop := fnExactNewActorRow.holds Try.pinned (OpenSpec.ofChange fnExactNewActorWrong)

/-- 'laws.FnPicked': WHATEVER THE INPUT: true; the input reads as it did. -/
def fnPickedSpec : ChangeSpec := { name := "fnPicked", fn := fun _ => fun
  | [d] => { results := [.lit (.bool true)], args := [d] }
  | _ => none }
def fnPickedRow : OpenClaim := { program := "ytpdhoimpbiehkaa", sum := "57dc13f1bbc03b32b73c8d0645f22f975f13a5f76c2b80eb378e4a6c7937a692", func := "loop.example/g03224/laws.FnPicked", spec := "fnPicked", unfollowed := true, recurses := true, apart := false }
def FnPickedSaid : Prop := fnPickedRow.holds Try.pinned (OpenSpec.ofChange fnPickedSpec)

/-- ITS FALSE NEIGHBOUR: 'it returns false'. Refute it at one input. -/
def fnPickedWrong : ChangeSpec := { name := "fnPicked", fn := fun _ => fun
  | [d] => { results := [.lit (.bool false)], args := [d] }
  | _ => none }
def FnPickedWrongFalsely : Prop := fnPickedRow.holds Try.pinned (OpenSpec.ofChange fnPickedWrong)

/-- 'laws.FnExactWantOf': WHATEVER THE INPUT: true; the input reads as it did. -/
def fnExactWantOfSpec : ChangeSpec := { name := "fnExactWantOf", fn := fun _ => fun
  | [d1, d2] => { results := [.lit (.bool true)], args := [d1, d2] }
  | _ => none }
def fnExactWantOfRow : OpenClaim := { program := "ytpdhoimpbiehkaa", sum := "57dc13f1bbc03b32b73c8d0645f22f975f13a5f76c2b80eb378e4a6c7937a692", func := "loop.example/g03224/laws.FnExactWantOf", spec := "fnExactWantOf", unfollowed := true, recurses := true, apart := false }
def FnExactWantOfSaid : Prop := fnExactWantOfRow.holds Try.pinned (OpenSpec.ofChange fnExactWantOfSpec)

/-- ITS FALSE NEIGHBOUR: 'it returns false'. Refute it at one input. -/
def fnExactWantOfWrong : ChangeSpec := { name := "fnExactWantOf", fn := fun _ => fun
  | [d1, d2] => { results := [.lit (.bool false)], args := [d1, d2] }
  | _ => none }
def FnExactWantOfWrongFalsely : Prop := fnExactWantOfRow.holds Try.pinned (OpenSpec.ofChange fnExactWantOfWrong)

/-- 'laws.FnSamples': WHATEVER THE INPUT: true; the input reads as it did. -/
def fnSamplesSpec : ChangeSpec := { name := "fnSamples", fn := fun _ => fun
  | [d] => { results := [.lit (.bool true)], args := [d] }
  | _ => none }
def fnSamplesRow : OpenClaim := { program := "ytpdhoimpbiehkaa", sum := "57dc13f1bbc03b32b73c8d0645f22f975f13a5f76c2b80eb378e4a6c7937a692", func := "loop.example/g03224/laws.FnSamples", spec := "fnSamples", unfollowed := true, recurses := true, apart := false }
def FnSamplesSaid : Prop := fnSamplesRow.holds Try.pinned (OpenSpec.ofChange fnSamplesSpec)

/-- ITS FALSE NEIGHBOUR: 'it returns false'. Refute it at one input. -/
def fnSamplesWrong : ChangeSpec := { name := "fnSamples", fn := fun _ => fun
  | [d] => { results := [.lit (.bool false)], args := [d] }
  | _ => none }
def FnSamplesWrongFalsely : Prop := fnSamplesRow.holds Try.pinned (OpenSpec.ofChange fnSamplesWrong)

/-- 'laws.FnProcess': WHATEVER THE INPUT: true; the input reads as it did. -/
def fnProcessSpec : ChangeSpec := { name := "fnProcess", fn := fun _ => fun
  | [d] => { results := [.lit (.bool true)], args := [d] }
  | _ => none }
def fnProcessRow : OpenClaim := { program := "ytpdhoimpbiehkaa", sum := "57dc13f1bbc03b32b73c8d0645f22f975f13a5f76c2b80eb378e4a6c7937a692", func := "loop.example/g03224/laws.FnProcess", spec := "fnProcess", unfollowed := true, recurses := true, apart := false }
def FnProcessSaid : Prop := fnProcessRow.holds Try.pinned (OpenSpec.ofChange fnProcessSpec)

/-- ITS FALSE NEIGHBOUR: 'it returns false'. Refute it at one input. -/
def fnProcessWrong : ChangeSpec := { name := "fnProcess", fn := fun _ => fun
  | [d] => { results := [.lit (.bool false)], args := [d] }
  | _ => none }
def FnProcessWrongFalsely : Prop := fnProcessRow.holds Try.pinned (OpenSpec.ofChange fnProcessWrong)

/-- 'laws.FnExactStepActor': WHATEVER THE INPUT: true; the input reads as it did. -/
def fnExactStepActorSpec : ChangeSpec := { name := "fnExactStepActor", fn := fun _ => fun
  | [d1, d2, d3] => { results := [.lit (.bool true)], args := [d1, d2, d3] }
  | _ => none }
def fnExactStepActorRow : OpenClaim := { program := "ytpdhoimpbiehkaa", sum := "57dc13f1bbc03b32b73c8d0645f22f975f13a5f76c2b80eb378e4a6c7937a692", func := "loop.example/g03224/laws.FnExactStepActor", spec := "fnExactStepActor", unfollowed := true, recurses := true, apart := false }
def FnExactStepActorSaid : Prop := fnExactStepActorRow.holds Try.pinned (OpenSpec.ofChange fnExactStepActorSpec)

/-- ITS FALSE NEIGHBOUR: 'it returns false'. Refute it at one input. -/
def fnExactStepActorWrong : ChangeSpec := { name := "fnExactStepActor", fn := fun _ => fun
  | [d1, d2, d3] => { results := [.lit (.bool false)], args := [d1, d2, d3] }
  | _ => none }
def FnExactStepActorWrongFalsely : Prop := fnExactStepActorRow.holds Try.pinned (OpenSpec.ofChange fnExactStepActorWrong)

/-- 'laws.FnExactRunProcess': WHATEVER THE INPUT: true; the input reads as it did. -/
def fnExactRunProcessSpec : ChangeSpec := { name := "fnExactRunProcess", fn := fun _ => fun
  | [d1, d2, d3] => { results := [.lit (.bool true)], args := [d1, d2, d3] }
  | _ => none }
def fnExactRunProcessRow : OpenClaim := { program := "ytpdhoimpbiehkaa", sum := "57dc13f1bbc03b32b73c8d0645f22f975f13a5f76c2b80eb378e4a6c7937a692", func := "loop.example/g03224/laws.FnExactRunProcess", spec := "fnExactRunProcess", unfollowed := true, recurses := true, apart := false }
def FnExactRunProcessSaid : Prop := fnExactRunProcessRow.holds Try.pinned (OpenSpec.ofChange fnExactRunProcessSpec)

/-- ITS FALSE NEIGHBOUR: 'it returns false'. Refute it at one input. -/
def fnExactRunProcessWrong : ChangeSpec := { name := "fnExactRunProcess", fn := fun _ => fun
  | [d1, d2, d3] => { results := [.lit (.bool false)], args := [d1, d2, d3] }
  | _ => none }
def FnExactRunProcessWrongFalsely : Prop := fnExactRunProcessRow.holds Try.pinned (OpenSpec.ofChange fnExactRunProcessWrong)

/- THE SECOND FORM. 'bulk': how many values and letters a reading holds, each counted each time it is reached (what is shared counts as often as it is met; a slice's spare places count too). A statement '..UptoSaid' is the law's where the arguments, and the package variables that the reading takes, are together of bulk at most 1048576: NARROWER than '..Said'. Prove '..Said' where nothing that the law and all that it calls make is longer than what came in: it says more and counts as full. Else prove '..UptoSaid'. A law counts once. -/
mutual
def uptoBulk {H : Type} : DataW H → Nat
  | .lit (.string bytes) => bytes.length + 1
  | .lit _ => 1
  | .nil => 1
  | .ptr d => uptoBulk d + 1
  | .slice elems spare => uptoBulkAll elems + uptoBulkAll spare + 1
  | .agg parts => uptoBulkAll parts + 1
  | .iface _ d => uptoBulk d + 1
  | .map entries => uptoBulkEntries entries + 1
  | .held _ => 1
def uptoBulkAll {H : Type} : List (DataW H) → Nat
  | [] => 0
  | d :: r => uptoBulk d + uptoBulkAll r
def uptoBulkEntries {H : Type} : List (Lit × DataW H) → Nat
  | [] => 0
  | x :: r => uptoBulkEntry x + uptoBulkEntries r
def uptoBulkEntry {H : Type} : Lit × DataW H → Nat
  | (.string bytes, d) => bytes.length + uptoBulk d + 1
  | (_, d) => uptoBulk d + 1
 end
def uptoSmall : (H : Type) → List (DataW H) → Bool := fun _ ds => decide (uptoBulkAll ds ≤ 1048576)
def OpenSpec.upto (s : _root_.Go.ChangeSpec) : _root_.Go.OpenSpec := { _root_.Go.OpenSpec.ofChange s with cond := some uptoSmall }

/-- 'laws.FnExactConstants', WHERE WHAT IT READS IS OF BULK AT MOST 1048576: true; the input reads as it did. -/
def fnExactConstantsUptoRow : OpenClaim := { program := "ytpdhoimpbiehkaa", sum := "57dc13f1bbc03b32b73c8d0645f22f975f13a5f76c2b80eb378e4a6c7937a692", func := "loop.example/g03224/laws.FnExactConstants", spec := "fnExactConstants", apart := false, narrowed := true }
def FnExactConstantsUptoSaid : Prop := fnExactConstantsUptoRow.holds Try.pinned (OpenSpec.upto fnExactConstantsSpec)

/-- 'laws.FnExactWrapToken', WHERE WHAT IT READS IS OF BULK AT MOST 1048576: true; the input reads as it did. -/
def fnExactWrapTokenUptoRow : OpenClaim := { program := "ytpdhoimpbiehkaa", sum := "57dc13f1bbc03b32b73c8d0645f22f975f13a5f76c2b80eb378e4a6c7937a692", func := "loop.example/g03224/laws.FnExactWrapToken", spec := "fnExactWrapToken", apart := false, narrowed := true }
def FnExactWrapTokenUptoSaid : Prop := fnExactWrapTokenUptoRow.holds Try.pinned (OpenSpec.upto fnExactWrapTokenSpec)

/-- 'laws.FnWrapped', WHERE WHAT IT READS IS OF BULK AT MOST 1048576: true; the input reads as it did. -/
def fnWrappedUptoRow : OpenClaim := { program := "ytpdhoimpbiehkaa", sum := "57dc13f1bbc03b32b73c8d0645f22f975f13a5f76c2b80eb378e4a6c7937a692", func := "loop.example/g03224/laws.FnWrapped", spec := "fnWrapped", apart := false, narrowed := true }
def FnWrappedUptoSaid : Prop := fnWrappedUptoRow.holds Try.pinned (OpenSpec.upto fnWrappedSpec)

/-- 'laws.FnExactIsStream', WHERE WHAT IT READS IS OF BULK AT MOST 1048576: true; the input reads as it did. -/
def fnExactIsStreamUptoRow : OpenClaim := { program := "ytpdhoimpbiehkaa", sum := "57dc13f1bbc03b32b73c8d0645f22f975f13a5f76c2b80eb378e4a6c7937a692", func := "loop.example/g03224/laws.FnExactIsStream", spec := "fnExactIsStream", unfollowed := true, recurses := true, apart := false, narrowed := true }
def FnExactIsStreamUptoSaid : Prop := fnExactIsStreamUptoRow.holds Try.pinned (OpenSpec.upto fnExactIsStreamSpec)

/-- 'laws.FnExactIsPrefix', WHERE WHAT IT READS IS OF BULK AT MOST 1048576: true; the input reads as it did. -/
def fnExactIsPrefixUptoRow : OpenClaim := { program := "ytpdhoimpbiehkaa", sum := "57dc13f1bbc03b32b73c8d0645f22f975f13a5f76c2b80eb378e4a6c7937a692", func := "loop.example/g03224/laws.FnExactIsPrefix", spec := "fnExactIsPrefix", unfollowed := true, recurses := true, apart := false, narrowed := true }
def FnExactIsPrefixUptoSaid : Prop := fnExactIsPrefixUptoRow.holds Try.pinned (OpenSpec.upto fnExactIsPrefixSpec)

/-- 'laws.FnExactMeetStreams', WHERE WHAT IT READS IS OF BULK AT MOST 1048576: true; the input reads as it did. -/
def fnExactMeetStreamsUptoRow : OpenClaim := { program := "ytpdhoimpbiehkaa", sum := "57dc13f1bbc03b32b73c8d0645f22f975f13a5f76c2b80eb378e4a6c7937a692", func := "loop.example/g03224/laws.FnExactMeetStreams", spec := "fnExactMeetStreams", unfollowed := true, recurses := true, apart := false, narrowed := true }
def FnExactMeetStreamsUptoSaid : Prop := fnExactMeetStreamsUptoRow.holds Try.pinned (OpenSpec.upto fnExactMeetStreamsSpec)

/-- 'laws.FnExactRouteStream', WHERE WHAT IT READS IS OF BULK AT MOST 1048576: true; the input reads as it did. -/
def fnExactRouteStreamUptoRow : OpenClaim := { program := "ytpdhoimpbiehkaa", sum := "57dc13f1bbc03b32b73c8d0645f22f975f13a5f76c2b80eb378e4a6c7937a692", func := "loop.example/g03224/laws.FnExactRouteStream", spec := "fnExactRouteStream", unfollowed := true, recurses := true, apart := false, narrowed := true }
def FnExactRouteStreamUptoSaid : Prop := fnExactRouteStreamUptoRow.holds Try.pinned (OpenSpec.upto fnExactRouteStreamSpec)

/-- 'laws.FnExactSplitStream', WHERE WHAT IT READS IS OF BULK AT MOST 1048576: true; the input reads as it did. -/
def fnExactSplitStreamUptoRow : OpenClaim := { program := "ytpdhoimpbiehkaa", sum := "57dc13f1bbc03b32b73c8d0645f22f975f13a5f76c2b80eb378e4a6c7937a692", func := "loop.example/g03224/laws.FnExactSplitStream", spec := "fnExactSplitStream", unfollowed := true, recurses := true, apart := false, narrowed := true }
def FnExactSplitStreamUptoSaid : Prop := fnExactSplitStreamUptoRow.holds Try.pinned (OpenSpec.upto fnExactSplitStreamSpec)

/-- 'laws.FnExactAlternateStreams', WHERE WHAT IT READS IS OF BULK AT MOST 1048576: true; the input reads as it did. -/
def fnExactAlternateStreamsUptoRow : OpenClaim := { program := "ytpdhoimpbiehkaa", sum := "57dc13f1bbc03b32b73c8d0645f22f975f13a5f76c2b80eb378e4a6c7937a692", func := "loop.example/g03224/laws.FnExactAlternateStreams", spec := "fnExactAlternateStreams", unfollowed := true, recurses := true, apart := false, narrowed := true }
def FnExactAlternateStreamsUptoSaid : Prop := fnExactAlternateStreamsUptoRow.holds Try.pinned (OpenSpec.upto fnExactAlternateStreamsSpec)

/-- 'laws.FnExactAppendStream', WHERE WHAT IT READS IS OF BULK AT MOST 1048576: true; the input reads as it did. -/
def fnExactAppendStreamUptoRow : OpenClaim := { program := "ytpdhoimpbiehkaa", sum := "57dc13f1bbc03b32b73c8d0645f22f975f13a5f76c2b80eb378e4a6c7937a692", func := "loop.example/g03224/laws.FnExactAppendStream", spec := "fnExactAppendStream", unfollowed := true, recurses := true, apart := false, narrowed := true }
def FnExactAppendStreamUptoSaid : Prop := fnExactAppendStreamUptoRow.holds Try.pinned (OpenSpec.upto fnExactAppendStreamSpec)

/-- 'laws.FnExactStepsOf', WHERE WHAT IT READS IS OF BULK AT MOST 1048576: true; the input reads as it did. -/
def fnExactStepsOfUptoRow : OpenClaim := { program := "ytpdhoimpbiehkaa", sum := "57dc13f1bbc03b32b73c8d0645f22f975f13a5f76c2b80eb378e4a6c7937a692", func := "loop.example/g03224/laws.FnExactStepsOf", spec := "fnExactStepsOf", unfollowed := true, recurses := true, apart := false, narrowed := true }
def FnExactStepsOfUptoSaid : Prop := fnExactStepsOfUptoRow.holds Try.pinned (OpenSpec.upto fnExactStepsOfSpec)

/-- 'laws.FnExactSumsOf', WHERE WHAT IT READS IS OF BULK AT MOST 1048576: true; the input reads as it did. -/
def fnExactSumsOfUptoRow : OpenClaim := { program := "ytpdhoimpbiehkaa", sum := "57dc13f1bbc03b32b73c8d0645f22f975f13a5f76c2b80eb378e4a6c7937a692", func := "loop.example/g03224/laws.FnExactSumsOf", spec := "fnExactSumsOf", unfollowed := true, recurses := true, apart := false, narrowed := true }
def FnExactSumsOfUptoSaid : Prop := fnExactSumsOfUptoRow.holds Try.pinned (OpenSpec.upto fnExactSumsOfSpec)

/-- 'laws.FnExactRestOf', WHERE WHAT IT READS IS OF BULK AT MOST 1048576: true; the input reads as it did. -/
def fnExactRestOfUptoRow : OpenClaim := { program := "ytpdhoimpbiehkaa", sum := "57dc13f1bbc03b32b73c8d0645f22f975f13a5f76c2b80eb378e4a6c7937a692", func := "loop.example/g03224/laws.FnExactRestOf", spec := "fnExactRestOf", unfollowed := true, recurses := true, apart := false, narrowed := true }
def FnExactRestOfUptoSaid : Prop := fnExactRestOfUptoRow.holds Try.pinned (OpenSpec.upto fnExactRestOfSpec)

/-- 'laws.FnExactJoinStreams', WHERE WHAT IT READS IS OF BULK AT MOST 1048576: true; the input reads as it did. -/
def fnExactJoinStreamsUptoRow : OpenClaim := { program := "ytpdhoimpbiehkaa", sum := "57dc13f1bbc03b32b73c8d0645f22f975f13a5f76c2b80eb378e4a6c7937a692", func := "loop.example/g03224/laws.FnExactJoinStreams", spec := "fnExactJoinStreams", unfollowed := true, recurses := true, apart := false, narrowed := true }
def FnExactJoinStreamsUptoSaid : Prop := fnExactJoinStreamsUptoRow.holds Try.pinned (OpenSpec.upto fnExactJoinStreamsSpec)

/-- 'laws.FnExactHoldStream', WHERE WHAT IT READS IS OF BULK AT MOST 1048576: true; the input reads as it did. -/
def fnExactHoldStreamUptoRow : OpenClaim := { program := "ytpdhoimpbiehkaa", sum := "57dc13f1bbc03b32b73c8d0645f22f975f13a5f76c2b80eb378e4a6c7937a692", func := "loop.example/g03224/laws.FnExactHoldStream", spec := "fnExactHoldStream", unfollowed := true, recurses := true, apart := false, narrowed := true }
def FnExactHoldStreamUptoSaid : Prop := fnExactHoldStreamUptoRow.holds Try.pinned (OpenSpec.upto fnExactHoldStreamSpec)

/-- 'laws.FnExactIsProgram', WHERE WHAT IT READS IS OF BULK AT MOST 1048576: true; the input reads as it did. -/
def fnExactIsProgramUptoRow : OpenClaim := { program := "ytpdhoimpbiehkaa", sum := "57dc13f1bbc03b32b73c8d0645f22f975f13a5f76c2b80eb378e4a6c7937a692", func := "loop.example/g03224/laws.FnExactIsProgram", spec := "fnExactIsProgram", unfollowed := true, recurses := true, apart := false, narrowed := true }
def FnExactIsProgramUptoSaid : Prop := fnExactIsProgramUptoRow.holds Try.pinned (OpenSpec.upto fnExactIsProgramSpec)

/-- 'laws.FnExactSampleProgram', WHERE WHAT IT READS IS OF BULK AT MOST 1048576: true; the input reads as it did. -/
def fnExactSampleProgramUptoRow : OpenClaim := { program := "ytpdhoimpbiehkaa", sum := "57dc13f1bbc03b32b73c8d0645f22f975f13a5f76c2b80eb378e4a6c7937a692", func := "loop.example/g03224/laws.FnExactSampleProgram", spec := "fnExactSampleProgram", unfollowed := true, recurses := true, apart := false, narrowed := true }
def FnExactSampleProgramUptoSaid : Prop := fnExactSampleProgramUptoRow.holds Try.pinned (OpenSpec.upto fnExactSampleProgramSpec)

/-- 'laws.FnStreams', WHERE WHAT IT READS IS OF BULK AT MOST 1048576: true; the input reads as it did. -/
def fnStreamsUptoRow : OpenClaim := { program := "ytpdhoimpbiehkaa", sum := "57dc13f1bbc03b32b73c8d0645f22f975f13a5f76c2b80eb378e4a6c7937a692", func := "loop.example/g03224/laws.FnStreams", spec := "fnStreams", unfollowed := true, recurses := true, apart := false, narrowed := true }
def FnStreamsUptoSaid : Prop := fnStreamsUptoRow.holds Try.pinned (OpenSpec.upto fnStreamsSpec)

/-- 'laws.FnTokens', WHERE WHAT IT READS IS OF BULK AT MOST 1048576: true; the input reads as it did. -/
def fnTokensUptoRow : OpenClaim := { program := "ytpdhoimpbiehkaa", sum := "57dc13f1bbc03b32b73c8d0645f22f975f13a5f76c2b80eb378e4a6c7937a692", func := "loop.example/g03224/laws.FnTokens", spec := "fnTokens", unfollowed := true, recurses := true, apart := false, narrowed := true }
def FnTokensUptoSaid : Prop := fnTokensUptoRow.holds Try.pinned (OpenSpec.upto fnTokensSpec)

/-- 'laws.FnSums', WHERE WHAT IT READS IS OF BULK AT MOST 1048576: true; the input reads as it did. -/
def fnSumsUptoRow : OpenClaim := { program := "ytpdhoimpbiehkaa", sum := "57dc13f1bbc03b32b73c8d0645f22f975f13a5f76c2b80eb378e4a6c7937a692", func := "loop.example/g03224/laws.FnSums", spec := "fnSums", unfollowed := true, recurses := true, apart := false, narrowed := true }
def FnSumsUptoSaid : Prop := fnSumsUptoRow.holds Try.pinned (OpenSpec.upto fnSumsSpec)

/-- 'laws.FnExactIsActor', WHERE WHAT IT READS IS OF BULK AT MOST 1048576: true; the input reads as it did. -/
def fnExactIsActorUptoRow : OpenClaim := { program := "ytpdhoimpbiehkaa", sum := "57dc13f1bbc03b32b73c8d0645f22f975f13a5f76c2b80eb378e4a6c7937a692", func := "loop.example/g03224/laws.FnExactIsActor", spec := "fnExactIsActor", unfollowed := true, recurses := true, apart := false, narrowed := true }
def FnExactIsActorUptoSaid : Prop := fnExactIsActorUptoRow.holds Try.pinned (OpenSpec.upto fnExactIsActorSpec)

/-- 'laws.FnExactNewActor', WHERE WHAT IT READS IS OF BULK AT MOST 1048576: true; the input reads as it did. -/
def fnExactNewActorUptoRow : OpenClaim := { program := "ytpdhoimpbiehkaa", sum := "57dc13f1bbc03b32b73c8d0645f22f975f13a5f76c2b80eb378e4a6c7937a692", func := "loop.example/g03224/laws.FnExactNewActor", spec := "fnExactNewActor", unfollowed := true, recurses := true, apart := false, narrowed := true }
def FnExactNewActorUptoSaid : Prop := fnExactNewActorUptoRow.holds Try.pinned (OpenSpec.upto fnExactNewActorSpec)

/-- 'laws.FnPicked', WHERE WHAT IT READS IS OF BULK AT MOST 1048576: true; the input reads as it did. -/
def fnPickedUptoRow : OpenClaim := { program := "ytpdhoimpbiehkaa", sum := "57dc13f1bbc03b32b73c8d0645f22f975f13a5f76c2b80eb378e4a6c7937a692", func := "loop.example/g03224/laws.FnPicked", spec := "fnPicked", unfollowed := true, recurses := true, apart := false, narrowed := true }
def FnPickedUptoSaid : Prop := fnPickedUptoRow.holds Try.pinned (OpenSpec.upto fnPickedSpec)

/-- 'laws.FnExactWantOf', WHERE WHAT IT READS IS OF BULK AT MOST 1048576: true; the input reads as it did. -/
def fnExactWantOfUptoRow : OpenClaim := { program := "ytpdhoimpbiehkaa", sum := "57dc13f1bbc03b32b73c8d0645f22f975f13a5f76c2b80eb378e4a6c7937a692", func := "loop.example/g03224/laws.FnExactWantOf", spec := "fnExactWantOf", unfollowed := true, recurses := true, apart := false, narrowed := true }
def FnExactWantOfUptoSaid : Prop := fnExactWantOfUptoRow.holds Try.pinned (OpenSpec.upto fnExactWantOfSpec)

/-- 'laws.FnSamples', WHERE WHAT IT READS IS OF BULK AT MOST 1048576: true; the input reads as it did. -/
def fnSamplesUptoRow : OpenClaim := { program := "ytpdhoimpbiehkaa", sum := "57dc13f1bbc03b32b73c8d0645f22f975f13a5f76c2b80eb378e4a6c7937a692", func := "loop.example/g03224/laws.FnSamples", spec := "fnSamples", unfollowed := true, recurses := true, apart := false, narrowed := true }
def FnSamplesUptoSaid : Prop := fnSamplesUptoRow.holds Try.pinned (OpenSpec.upto fnSamplesSpec)

/-- 'laws.FnProcess', WHERE WHAT IT READS IS OF BULK AT MOST 1048576: true; the input reads as it did. -/
def fnProcessUptoRow : OpenClaim := { program := "ytpdhoimpbiehkaa", sum := "57dc13f1bbc03b32b73c8d0645f22f975f13a5f76c2b80eb378e4a6c7937a692", func := "loop.example/g03224/laws.FnProcess", spec := "fnProcess", unfollowed := true, recurses := true, apart := false, narrowed := true }
def FnProcessUptoSaid : Prop := fnProcessUptoRow.holds Try.pinned (OpenSpec.upto fnProcessSpec)

/-- 'laws.FnExactStepActor', WHERE WHAT IT READS IS OF BULK AT MOST 1048576: true; the input reads as it did. -/
def fnExactStepActorUptoRow : OpenClaim := { program := "ytpdhoimpbiehkaa", sum := "57dc13f1bbc03b32b73c8d0645f22f975f13a5f76c2b80eb378e4a6c7937a692", func := "loop.example/g03224/laws.FnExactStepActor", spec := "fnExactStepActor", unfollowed := true, recurses := true, apart := false, narrowed := true }
def FnExactStepActorUptoSaid : Prop := fnExactStepActorUptoRow.holds Try.pinned (OpenSpec.upto fnExactStepActorSpec)

/-- 'laws.FnExactRunProcess', WHERE WHAT IT READS IS OF BULK AT MOST 1048576: true; the input reads as it did. -/
def fnExactRunProcessUptoRow : OpenClaim := { program := "ytpdhoimpbiehkaa", sum := "57dc13f1bbc03b32b73c8d0645f22f975f13a5f76c2b80eb378e4a6c7937a692", func := "loop.example/g03224/laws.FnExactRunProcess", spec := "fnExactRunProcess", unfollowed := true, recurses := true, apart := false, narrowed := true }
def FnExactRunProcessUptoSaid : Prop := fnExactRunProcessUptoRow.holds Try.pinned (OpenSpec.upto fnExactRunProcessSpec)

end Rows
end Go.Proofs.Ytpdhoimpbiehkaa
