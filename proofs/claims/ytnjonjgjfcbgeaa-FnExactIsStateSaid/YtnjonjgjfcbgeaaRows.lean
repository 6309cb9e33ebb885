/-
  No cell of these rows narrows 'for every input' (looked for: loops, veiled, ifaces, maps, wideKeys, modest, calm, conditions, laid).
  DERIVED. THE GIVEN ROWS OF THIS SEAT. 12 by the template 'for every input the law returns true; each argument reads behind the call as it read before'; 0 by the template 'total and deterministic' (their statements: YtnjonjgjfcbgeaaTotals.lean).
  GIVEN WITH THE SEED: the statements are not yours to turn. If you find one false, say at which input.
  Laid BY PROGRAM, IN A SANDBOX (cutbox-rows.mjs): the forced cells as the released guide's own fill.sh prints them over the translation fb8d7cd81574de06… (all of the seat's roots in one cut). By AI agents, Wed Nov 11 2026. No macro, syntax, notation, axiom, sorry.
-/
import Derived.Test.YtnjonjgjfcbgeaaChecked
import GoSem.Claim
import GoSem.ClaimJoined
import GoSem.ClaimMapViews
import Derived.JoinedTies
import Derived.KernelRfl
namespace Go.Proofs.Ytnjonjgjfcbgeaa
/- THE CELL 'sum', in the pinned program and in every row, IS THE sha256 OF THE DUMP (.gsa) THAT YtnjonjgjfcbgeaaProg.lean LOADS. Nothing in Lean hashes anything: it is a label: what it is worth is what the hold of that sum in a sandbox is worth. -/
noncomputable def Try.pinned : Pinned := { name := "ytnjonjgjfcbgeaa", sum := "fb8d7cd81574de064535e95df34765b6972f2bcbae3cec07422d23c087dac866", checked := Try.checked }
namespace Rows
def none {H : Type} : Left H := { results := [], args := [] }

/-- 'laws.FnPicked': WHATEVER THE INPUT: true; the input reads as it did. -/
def fnPickedSpec : ChangeSpec := { name := "fnPicked", fn := fun _ => fun
  | [d] => { results := [.lit (.bool true)], args := [d] }
  | _ => none }
def fnPickedRow : OpenClaim := { program := "ytnjonjgjfcbgeaa", sum := "fb8d7cd81574de064535e95df34765b6972f2bcbae3cec07422d23c087dac866", func := "loop.example/g03224/laws.FnPicked", spec := "fnPicked", unfollowed := true, recurses := true, apart := false }
def FnPickedSaid : Prop := fnPickedRow.holds Try.pinned (OpenSpec.ofChange fnPickedSpec)

/-- ITS FALSE NEIGHBOUR: 'it returns false'. Refute it at one input. -/
def fnPickedWrong : ChangeSpec := { name := "fnPicked", fn := fun _ => fun
  | [d] => { results := [.lit (.bool false)], args := [d] }
  | _ => none }
def FnPickedWrongFalsely : Prop := fnPickedRow.holds Try.pinned (OpenSpec.ofChange fnPickedWrong)

/-- 'laws.FnProcess': WHATEVER THE INPUT: true; the input reads as it did. -/
def fnProcessSpec : ChangeSpec := { name := "fnProcess", fn := fun _ => fun
  | [d] => { results := [.lit (.bool true)], args := [d] }
  | _ => none }
def fnProcessRow : OpenClaim := { program := "ytnjonjgjfcbgeaa", sum := "fb8d7cd81574de064535e95df34765b6972f2bcbae3cec07422d23c087dac866", func := "loop.example/g03224/laws.FnProcess", spec := "fnProcess", unfollowed := true, recurses := true, apart := false }
def FnProcessSaid : Prop := fnProcessRow.holds Try.pinned (OpenSpec.ofChange fnProcessSpec)

/-- ITS FALSE NEIGHBOUR: 'it returns false'. Refute it at one input. -/
def fnProcessWrong : ChangeSpec := { name := "fnProcess", fn := fun _ => fun
  | [d] => { results := [.lit (.bool false)], args := [d] }
  | _ => none }
def FnProcessWrongFalsely : Prop := fnProcessRow.holds Try.pinned (OpenSpec.ofChange fnProcessWrong)

/-- 'laws.FnExactIsNetwork': WHATEVER THE INPUT: true; the input reads as it did. -/
def fnExactIsNetworkSpec : ChangeSpec := { name := "fnExactIsNetwork", fn := fun _ => fun
  | [d] => { results := [.lit (.bool true)], args := [d] }
  | _ => none }
def fnExactIsNetworkRow : OpenClaim := { program := "ytnjonjgjfcbgeaa", sum := "fb8d7cd81574de064535e95df34765b6972f2bcbae3cec07422d23c087dac866", func := "loop.example/g03224/laws.FnExactIsNetwork", spec := "fnExactIsNetwork", unfollowed := true, recurses := true, apart := false }
def FnExactIsNetworkSaid : Prop := fnExactIsNetworkRow.holds Try.pinned (OpenSpec.ofChange fnExactIsNetworkSpec)

/-- ITS FALSE NEIGHBOUR: 'it returns false'. Refute it at one input. -/
def fnExactIsNetworkWrong : ChangeSpec := { name := "fnExactIsNetwork", fn := fun _ => fun
  | [d] => { results := [.lit (.bool false)], args := [d] }
  | _ => none }
def FnExactIsNetworkWrongFalsely : Prop := fnExactIsNetworkRow.holds Try.pinned (OpenSpec.ofChange fnExactIsNetworkWrong)

/-- 'laws.FnExactLinkFrom': WHATEVER THE INPUT: true; the input reads as it did. -/
def fnExactLinkFromSpec : ChangeSpec := { name := "fnExactLinkFrom", fn := fun _ => fun
  | [d1, d2, d3] => { results := [.lit (.bool true)], args := [d1, d2, d3] }
  | _ => none }
def fnExactLinkFromRow : OpenClaim := { program := "ytnjonjgjfcbgeaa", sum := "fb8d7cd81574de064535e95df34765b6972f2bcbae3cec07422d23c087dac866", func := "loop.example/g03224/laws.FnExactLinkFrom", spec := "fnExactLinkFrom", unfollowed := true, recurses := true, apart := false }
def FnExactLinkFromSaid : Prop := fnExactLinkFromRow.holds Try.pinned (OpenSpec.ofChange fnExactLinkFromSpec)

/-- ITS FALSE NEIGHBOUR: 'it returns false'. Refute it at one input. -/
def fnExactLinkFromWrong : ChangeSpec := { name := "fnExactLinkFrom", fn := fun _ => fun
  | [d1, d2, d3] => { results := [.lit (.bool false)], args := [d1, d2, d3] }
  | _ => none }
def FnExactLinkFromWrongFalsely : Prop := fnExactLinkFromRow.holds Try.pinned (OpenSpec.ofChange fnExactLinkFromWrong)

/-- 'laws.FnExactLinkTo': WHATEVER THE INPUT: true; the input reads as it did. -/
def fnExactLinkToSpec : ChangeSpec := { name := "fnExactLinkTo", fn := fun _ => fun
  | [d1, d2, d3] => { results := [.lit (.bool true)], args := [d1, d2, d3] }
  | _ => none }
def fnExactLinkToRow : OpenClaim := { program := "ytnjonjgjfcbgeaa", sum := "fb8d7cd81574de064535e95df34765b6972f2bcbae3cec07422d23c087dac866", func := "loop.example/g03224/laws.FnExactLinkTo", spec := "fnExactLinkTo", unfollowed := true, recurses := true, apart := false }
def FnExactLinkToSaid : Prop := fnExactLinkToRow.holds Try.pinned (OpenSpec.ofChange fnExactLinkToSpec)

/-- ITS FALSE NEIGHBOUR: 'it returns false'. Refute it at one input. -/
def fnExactLinkToWrong : ChangeSpec := { name := "fnExactLinkTo", fn := fun _ => fun
  | [d1, d2, d3] => { results := [.lit (.bool false)], args := [d1, d2, d3] }
  | _ => none }
def FnExactLinkToWrongFalsely : Prop := fnExactLinkToRow.holds Try.pinned (OpenSpec.ofChange fnExactLinkToWrong)

/-- 'laws.FnExactAreHistories': WHATEVER THE INPUT: true; the input reads as it did. -/
def fnExactAreHistoriesSpec : ChangeSpec := { name := "fnExactAreHistories", fn := fun _ => fun
  | [d1, d2] => { results := [.lit (.bool true)], args := [d1, d2] }
  | _ => none }
def fnExactAreHistoriesRow : OpenClaim := { program := "ytnjonjgjfcbgeaa", sum := "fb8d7cd81574de064535e95df34765b6972f2bcbae3cec07422d23c087dac866", func := "loop.example/g03224/laws.FnExactAreHistories", spec := "fnExactAreHistories", unfollowed := true, recurses := true, apart := false }
def FnExactAreHistoriesSaid : Prop := fnExactAreHistoriesRow.holds Try.pinned (OpenSpec.ofChange fnExactAreHistoriesSpec)

/-- ITS FALSE NEIGHBOUR: 'it returns false'. Refute it at one input. -/
def fnExactAreHistoriesWrong : ChangeSpec := { name := "fnExactAreHistories", fn := fun _ => fun
  | [d1, d2] => { results := [.lit (.bool false)], args := [d1, d2] }
  | _ => none }
def FnExactAreHistoriesWrongFalsely : Prop := fnExactAreHistoriesRow.holds Try.pinned (OpenSpec.ofChange fnExactAreHistoriesWrong)

/-- 'laws.FnExactInputsOf': WHATEVER THE INPUT: true; the input reads as it did. -/
def fnExactInputsOfSpec : ChangeSpec := { name := "fnExactInputsOf", fn := fun _ => fun
  | [d] => { results := [.lit (.bool true)], args := [d] }
  | _ => none }
def fnExactInputsOfRow : OpenClaim := { program := "ytnjonjgjfcbgeaa", sum := "fb8d7cd81574de064535e95df34765b6972f2bcbae3cec07422d23c087dac866", func := "loop.example/g03224/laws.FnExactInputsOf", spec := "fnExactInputsOf", unfollowed := true, recurses := true, apart := false }
def FnExactInputsOfSaid : Prop := fnExactInputsOfRow.holds Try.pinned (OpenSpec.ofChange fnExactInputsOfSpec)

/-- ITS FALSE NEIGHBOUR: 'it returns false'. Refute it at one input. -/
def fnExactInputsOfWrong : ChangeSpec := { name := "fnExactInputsOf", fn := fun _ => fun
  | [d] => { results := [.lit (.bool false)], args := [d] }
  | _ => none }
def FnExactInputsOfWrongFalsely : Prop := fnExactInputsOfRow.holds Try.pinned (OpenSpec.ofChange fnExactInputsOfWrong)

/-- 'laws.FnExactOutputsOf': WHATEVER THE INPUT: true; the input reads as it did. -/
def fnExactOutputsOfSpec : ChangeSpec := { name := "fnExactOutputsOf", fn := fun _ => fun
  | [d] => { results := [.lit (.bool true)], args := [d] }
  | _ => none }
def fnExactOutputsOfRow : OpenClaim := { program := "ytnjonjgjfcbgeaa", sum := "fb8d7cd81574de064535e95df34765b6972f2bcbae3cec07422d23c087dac866", func := "loop.example/g03224/laws.FnExactOutputsOf", spec := "fnExactOutputsOf", unfollowed := true, recurses := true, apart := false }
def FnExactOutputsOfSaid : Prop := fnExactOutputsOfRow.holds Try.pinned (OpenSpec.ofChange fnExactOutputsOfSpec)

/-- ITS FALSE NEIGHBOUR: 'it returns false'. Refute it at one input. -/
def fnExactOutputsOfWrong : ChangeSpec := { name := "fnExactOutputsOf", fn := fun _ => fun
  | [d] => { results := [.lit (.bool false)], args := [d] }
  | _ => none }
def FnExactOutputsOfWrongFalsely : Prop := fnExactOutputsOfRow.holds Try.pinned (OpenSpec.ofChange fnExactOutputsOfWrong)

/-- 'laws.FnExactAreBelow': WHATEVER THE INPUT: true; the input reads as it did. -/
def fnExactAreBelowSpec : ChangeSpec := { name := "fnExactAreBelow", fn := fun _ => fun
  | [d1, d2, d3] => { results := [.lit (.bool true)], args := [d1, d2, d3] }
  | _ => none }
def fnExactAreBelowRow : OpenClaim := { program := "ytnjonjgjfcbgeaa", sum := "fb8d7cd81574de064535e95df34765b6972f2bcbae3cec07422d23c087dac866", func := "loop.example/g03224/laws.FnExactAreBelow", spec := "fnExactAreBelow", unfollowed := true, recurses := true, apart := false }
def FnExactAreBelowSaid : Prop := fnExactAreBelowRow.holds Try.pinned (OpenSpec.ofChange fnExactAreBelowSpec)

/-- ITS FALSE NEIGHBOUR: 'it returns false'. Refute it at one input. -/
def fnExactAreBelowWrong : ChangeSpec := { name := "fnExactAreBelow", fn := fun _ => fun
  | [d1, d2, d3] => { results := [.lit (.bool false)], args := [d1, d2, d3] }
  | _ => none }
def FnExactAreBelowWrongFalsely : Prop := fnExactAreBelowRow.holds Try.pinned (OpenSpec.ofChange fnExactAreBelowWrong)

/-- 'laws.FnExactChainNetwork': WHATEVER THE INPUT: true; the input reads as it did. -/
def fnExactChainNetworkSpec : ChangeSpec := { name := "fnExactChainNetwork", fn := fun _ => fun
  | [d1, d2] => { results := [.lit (.bool true)], args := [d1, d2] }
  | _ => none }
def fnExactChainNetworkRow : OpenClaim := { program := "ytnjonjgjfcbgeaa", sum := "fb8d7cd81574de064535e95df34765b6972f2bcbae3cec07422d23c087dac866", func := "loop.example/g03224/laws.FnExactChainNetwork", spec := "fnExactChainNetwork", unfollowed := true, recurses := true, apart := false }
def FnExactChainNetworkSaid : Prop := fnExactChainNetworkRow.holds Try.pinned (OpenSpec.ofChange fnExactChainNetworkSpec)

/-- ITS FALSE NEIGHBOUR: 'it returns false'. Refute it at one input. -/
def fnExactChainNetworkWrong : ChangeSpec := { name := "fnExactChainNetwork", fn := fun _ => fun
  | [d1, d2] => { results := [.lit (.bool false)], args := [d1, d2] }
  | _ => none }
def FnExactChainNetworkWrongFalsely : Prop := fnExactChainNetworkRow.holds Try.pinned (OpenSpec.ofChange fnExactChainNetworkWrong)

/-- 'laws.FnExactIsState': WHATEVER THE INPUT: true; the input reads as it did. -/
def fnExactIsStateSpec : ChangeSpec := { name := "fnExactIsState", fn := fun _ => fun
  | [d1, d2] => { results := [.lit (.bool true)], args := [d1, d2] }
  | _ => none }
def fnExactIsStateRow : OpenClaim := { program := "ytnjonjgjfcbgeaa", sum := "fb8d7cd81574de064535e95df34765b6972f2bcbae3cec07422d23c087dac866", func := "loop.example/g03224/laws.FnExactIsState", spec := "fnExactIsState", unfollowed := true, recurses := true, apart := false }
def FnExactIsStateSaid : Prop := fnExactIsStateRow.holds Try.pinned (OpenSpec.ofChange fnExactIsStateSpec)

/-- ITS FALSE NEIGHBOUR: 'it returns false'. Refute it at one input. -/
def fnExactIsStateWrong : ChangeSpec := { name := "fnExactIsState", fn := fun _ => fun
  | [d1, d2] => { results := [.lit (.bool false)], args := [d1, d2] }
  | _ => none }
def FnExactIsStateWrongFalsely : Prop := fnExactIsStateRow.holds Try.pinned (OpenSpec.ofChange fnExactIsStateWrong)

/-- 'laws.FnExactStartState': WHATEVER THE INPUT: true; the input reads as it did. -/
def fnExactStartStateSpec : ChangeSpec := { name := "fnExactStartState", fn := fun _ => fun
  | [d] => { results := [.lit (.bool true)], args := [d] }
  | _ => none }
def fnExactStartStateRow : OpenClaim := { program := "ytnjonjgjfcbgeaa", sum := "fb8d7cd81574de064535e95df34765b6972f2bcbae3cec07422d23c087dac866", func := "loop.example/g03224/laws.FnExactStartState", spec := "fnExactStartState", unfollowed := true, recurses := true, apart := false }
def FnExactStartStateSaid : Prop := fnExactStartStateRow.holds Try.pinned (OpenSpec.ofChange fnExactStartStateSpec)

/-- ITS FALSE NEIGHBOUR: 'it returns false'. Refute it at one input. -/
def fnExactStartStateWrong : ChangeSpec := { name := "fnExactStartState", fn := fun _ => fun
  | [d] => { results := [.lit (.bool false)], args := [d] }
  | _ => none }
def FnExactStartStateWrongFalsely : Prop := fnExactStartStateRow.holds Try.pinned (OpenSpec.ofChange fnExactStartStateWrong)

/- THE SECOND FORM. 'bulk': how many values and letters a reading holds, each counted each time it is reached (what is shared counts as often as it is met; a slice's spare places count too). A statement '..UptoSaid' is the law's where the arguments, and the package variables that the reading takes, are together of bulk at most 1048576: NARROWER than '..Said'. Prove '..Said' where nothing that the law and all that it calls make is longer than what came in: it says more and counts as full. Else prove '..UptoSaid'. A law counts once. -/
mutual
def uptoBulk {H : Type} : DataW H → Nat
  | .lit (.string bytes) => bytes.length + 1
  | .lit _ => 1
  | .nil => 1
  | .ptr d => uptoBulk d + 1
  | .slice elems spare => uptoBulkAll elems + uptoBulkAll spare + 1
  | .agg parts => uptoBulkAll parts + 1
  | .iface _ d => uptoBulk d + 1
  | .map entries => uptoBulkEntries entries + 1
  | .held _ => 1
def uptoBulkAll {H : Type} : List (DataW H) → Nat
  | [] => 0
  | d :: r => uptoBulk d + uptoBulkAll r
def uptoBulkEntries {H : Type} : List (Lit × DataW H) → Nat
  | [] => 0
  | x :: r => uptoBulkEntry x + uptoBulkEntries r
def uptoBulkEntry {H : Type} : Lit × DataW H → Nat
  | (.string bytes, d) => bytes.length + uptoBulk d + 1
  | (_, d) => uptoBulk d + 1
 end
def uptoSmall : (H : Type) → List (DataW H) → Bool := fun _ ds => decide (uptoBulkAll ds ≤ 1048576)
def OpenSpec.upto (s : _root_.Go.ChangeSpec) : _root_.Go.OpenSpec := { _root_.Go.OpenSpec.ofChange s with cond := some uptoSmall }

/-- 'laws.FnPicked', WHERE WHAT IT READS IS OF BULK AT MOST 1048576: true; the input reads as it did. -/
def fnPickedUptoRow : OpenClaim := { program := "ytnjonjgjfcbgeaa", sum := "fb8d7cd81574de064535e95df34765b6972f2bcbae3cec07422d23c087dac866", func := "loop.example/g03224/laws.FnPicked", spec := "fnPicked", unfollowed := true, recurses := true, apart := false, narrowed := true }
def FnPickedUptoSaid : Prop := fnPickedUptoRow.holds Try.pinned (OpenSpec.upto fnPickedSpec)

/-- 'laws.FnProcess', WHERE WHAT IT READS IS OF BULK AT MOST 1048576: true; the input reads as it did. -/
def fnProcessUptoRow : OpenClaim := { program := "ytnjonjgjfcbgeaa", sum := "fb8d7cd81574de064535e95df34765b6972f2bcbae3cec07422d23c087dac866", func := "loop.example/g03224/laws.FnProcess", spec := "fnProcess", unfollowed := true, recurses := true, apart := false, narrowed := true }
def FnProcessUptoSaid : Prop := fnProcessUptoRow.holds Try.pinned (OpenSpec.upto fnProcessSpec)

/-- 'laws.FnExactIsNetwork', WHERE WHAT IT READS IS OF BULK AT MOST 1048576: true; the input reads as it did. -/
def fnExactIsNetworkUptoRow : OpenClaim := { program := "ytnjonjgjfcbgeaa", sum := "fb8d7cd81574de064535e95df34765b6972f2bcbae3cec07422d23c087dac866", func := "loop.example/g03224/laws.FnExactIsNetwork", spec := "fnExactIsNetwork", unfollowed := true, recurses := true, apart := false, narrowed := true }
def FnExactIsNetworkUptoSaid : Prop := fnExactIsNetworkUptoRow.holds Try.pinned (OpenSpec.upto fnExactIsNetworkSpec)

/-- 'laws.FnExactLinkFrom', WHERE WHAT IT READS IS OF BULK AT MOST 1048576: true; the input reads as it did. -/
def fnExactLinkFromUptoRow : OpenClaim := { program := "ytnjonjgjfcbgeaa", sum := "fb8d7cd81574de064535e95df34765b6972f2bcbae3cec07422d23c087dac866", func := "loop.example/g03224/laws.FnExactLinkFrom", spec := "fnExactLinkFrom", unfollowed := true, recurses := true, apart := false, narrowed := true }
def FnExactLinkFromUptoSaid : Prop := fnExactLinkFromUptoRow.holds Try.pinned (OpenSpec.upto fnExactLinkFromSpec)

/-- 'laws.FnExactLinkTo', WHERE WHAT IT READS IS OF BULK AT MOST 1048576: true; the input reads as it did. -/
def fnExactLinkToUptoRow : OpenClaim := { program := "ytnjonjgjfcbgeaa", sum := "fb8d7cd81574de064535e95df34765b6972f2bcbae3cec07422d23c087dac866", func := "loop.example/g03224/laws.FnExactLinkTo", spec := "fnExactLinkTo", unfollowed := true, recurses := true, apart := false, narrowed := true }
def FnExactLinkToUptoSaid : Prop := fnExactLinkToUptoRow.holds Try.pinned (OpenSpec.upto fnExactLinkToSpec)

/-- 'laws.FnExactAreHistories', WHERE WHAT IT READS IS OF BULK AT MOST 1048576: true; the input reads as it did. -/
def fnExactAreHistoriesUptoRow : OpenClaim := { program := "ytnjonjgjfcbgeaa", sum := "fb8d7cd81574de064535e95df34765b6972f2bcbae3cec07422d23c087dac866", func := "loop.example/g03224/laws.FnExactAreHistories", spec := "fnExactAreHistories", unfollowed := true, recurses := true, apart := false, narrowed := true }
def FnExactAreHistoriesUptoSaid : Prop := fnExactAreHistoriesUptoRow.holds Try.pinned (OpenSpec.upto fnExactAreHistoriesSpec)

/-- 'laws.FnExactInputsOf', WHERE WHAT IT READS IS OF BULK AT MOST 1048576: true; the input reads as it did. -/
def fnExactInputsOfUptoRow : OpenClaim := { program := "ytnjonjgjfcbgeaa", sum := "fb8d7cd81574de064535e95df34765b6972f2bcbae3cec07422d23c087dac866", func := "loop.example/g03224/laws.FnExactInputsOf", spec := "fnExactInputsOf", unfollowed := true, recurses := true, apart := false, narrowed := true }
def FnExactInputsOfUptoSaid : Prop := fnExactInputsOfUptoRow.holds Try.pinned (OpenSpec.upto fnExactInputsOfSpec)

/-- 'laws.FnExactOutputsOf', WHERE WHAT IT READS IS OF BULK AT MOST 1048576: true; the input reads as it did. -/
def fnExactOutputsOfUptoRow : OpenClaim := { program := "ytnjonjgjfcbgeaa", sum := "fb8d7cd81574de064535e95df34765b6972f2bcbae3cec07422d23c087dac866", func := "loop.example/g03224/laws.FnExactOutputsOf", spec := "fnExactOutputsOf", unfollowed := true, recurses := true, apart := false, narrowed := true }
def FnExactOutputsOfUptoSaid : Prop := fnExactOutputsOfUptoRow.holds Try.pinned (OpenSpec.upto fnExactOutputsOfSpec)

/-- 'laws.FnExactAreBelow', WHERE WHAT IT READS IS OF BULK AT MOST 1048576: true; the input reads as it did. -/
def fnExactAreBelowUptoRow : OpenClaim := { program := "ytnjonjgjfcbgeaa", sum := "fb8d7cd81574de064535e95df34765b6972f2bcbae3cec07422d23c087dac866", func := "loop.example/g03224/laws.FnExactAreBelow", spec := "fnExactAreBelow", unfollowed := true, recurses := true, apart := false, narrowed := true }
def FnExactAreBelowUptoSaid : Prop := fnExactAreBelowUptoRow.holds Try.pinned (OpenSpec.upto fnExactAreBelowSpec)

/-- 'laws.FnExactChainNetwork', WHERE WHAT IT READS IS OF BULK AT MOST 1048576: true; the input reads as it did. -/
def fnExactChainNetworkUptoRow : OpenClaim := { program := "ytnjonjgjfcbgeaa", sum := "fb8d7cd81574de064535e95df34765b6972f2bcbae3cec07422d23c087dac866", func := "loop.example/g03224/laws.FnExactChainNetwork", spec := "fnExactChainNetwork", unfollowed := true, recurses := true, apart := false, narrowed := true }
def FnExactChainNetworkUptoSaid : Prop := fnExactChainNetworkUptoRow.holds Try.pinned (OpenSpec.upto fnExactChainNetworkSpec)

/-- 'laws.FnExactIsState', WHERE WHAT IT READS IS OF BULK AT MOST 1048576: true; the input reads as it did. -/
def fnExactIsStateUptoRow : OpenClaim := { program := "ytnjonjgjfcbgeaa", sum := "fb8d7cd81574de064535e95df34765b6972f2bcbae3cec07422d23c087dac866", func := "loop.example/g03224/laws.FnExactIsState", spec := "fnExactIsState", unfollowed := true, recurses := true, apart := false, narrowed := true }
def FnExactIsStateUptoSaid : Prop := fnExactIsStateUptoRow.holds Try.pinned (OpenSpec.upto fnExactIsStateSpec)

/-- 'laws.FnExactStartState', WHERE WHAT IT READS IS OF BULK AT MOST 1048576: true; the input reads as it did. -/
def fnExactStartStateUptoRow : OpenClaim := { program := "ytnjonjgjfcbgeaa", sum := "fb8d7cd81574de064535e95df34765b6972f2bcbae3cec07422d23c087dac866", func := "loop.example/g03224/laws.FnExactStartState", spec := "fnExactStartState", unfollowed := true, recurses := true, apart := false, narrowed := true }
def FnExactStartStateUptoSaid : Prop := fnExactStartStateUptoRow.holds Try.pinned (OpenSpec.upto fnExactStartStateSpec)

end Rows
end Go.Proofs.Ytnjonjgjfcbgeaa
