/-
  No cell of these rows narrows 'for every input' (looked for: loops, veiled, ifaces, maps, wideKeys, modest, calm, conditions, laid).
  DERIVED. THE GIVEN ROWS OF THIS SEAT. 9 by the template 'for every input the law returns true; each argument reads behind the call as it read before'; 0 by the template 'total and deterministic' (their statements: YtahcojaklooliaaTotals.lean).
  GIVEN WITH THE SEED: the statements are not yours to turn. If you find one false, say at which input.
  Laid BY PROGRAM, IN A SANDBOX (cutbox-rows.mjs): the forced cells as the released guide's own fill.sh prints them over the translation d9412123790366fc… (all of the seat's roots in one cut). By AI agents, Wed Nov 11 2026. No macro, syntax, notation, axiom, sorry.
-/
import Derived.Test.YtahcojaklooliaaChecked
import GoSem.Claim
import GoSem.ClaimJoined
import GoSem.ClaimMapViews
import Derived.JoinedTies
import Derived.KernelRfl
namespace Go.Proofs.Ytahcojaklooliaa
/- THE CELL 'sum', in the pinned program and in every row, IS THE sha256 OF THE DUMP (.gsa) THAT YtahcojaklooliaaProg.lean LOADS. Nothing in Lean hashes anything: it is a label: what it is worth is what the hold of that sum in a sandbox is worth. -/
noncomputable def Try.pinned : Pinned := { name := "ytahcojaklooliaa", sum := "d9412123790366fcd319fc7daac6d11cef579ff6a7e978a609d7361f83271193", checked := Try.checked }
namespace Rows
def none {H : Type} : Left H := { results := [], args := [] }

/-- 'laws.FnExactObserveNetwork': WHATEVER THE INPUT: true; the input reads as it did. -/
def fnExactObserveNetworkSpec : ChangeSpec := { name := "fnExactObserveNetwork", fn := fun _ => fun
  | [d] => { results := [.lit (.bool true)], args := [d] }
  | _ => none }
def fnExactObserveNetworkRow : OpenClaim := { program := "ytahcojaklooliaa", sum := "d9412123790366fcd319fc7daac6d11cef579ff6a7e978a609d7361f83271193", func := "loop.example/g03224/laws.FnExactObserveNetwork", spec := "fnExactObserveNetwork", unfollowed := true, recurses := true, apart := false }
def FnExactObserveNetworkSaid : Prop := fnExactObserveNetworkRow.holds Try.pinned (OpenSpec.ofChange fnExactObserveNetworkSpec)

/-- ITS FALSE NEIGHBOUR: 'it returns false'. Refute it at one input. -/
def fnExactObserveNetworkWrong : ChangeSpec := { name := "fnExactObserveNetwork", fn := fun _ => fun
  | [d] => { results := [.lit (.bool false)], args := [d] }
  | _ => none }
def FnExactObserveNetworkWrongFalsely : Prop := fnExactObserveNetworkRow.holds Try.pinned (OpenSpec.ofChange fnExactObserveNetworkWrong)

/-- 'laws.FnExactWaitsOf': WHATEVER THE INPUT: true; the input reads as it did. -/
def fnExactWaitsOfSpec : ChangeSpec := { name := "fnExactWaitsOf", fn := fun _ => fun
  | [d] => { results := [.lit (.bool true)], args := [d] }
  | _ => none }
def fnExactWaitsOfRow : OpenClaim := { program := "ytahcojaklooliaa", sum := "d9412123790366fcd319fc7daac6d11cef579ff6a7e978a609d7361f83271193", func := "loop.example/g03224/laws.FnExactWaitsOf", spec := "fnExactWaitsOf", unfollowed := true, recurses := true, apart := false }
def FnExactWaitsOfSaid : Prop := fnExactWaitsOfRow.holds Try.pinned (OpenSpec.ofChange fnExactWaitsOfSpec)

/-- ITS FALSE NEIGHBOUR: 'it returns false'. Refute it at one input. -/
def fnExactWaitsOfWrong : ChangeSpec := { name := "fnExactWaitsOf", fn := fun _ => fun
  | [d] => { results := [.lit (.bool false)], args := [d] }
  | _ => none }
def FnExactWaitsOfWrongFalsely : Prop := fnExactWaitsOfRow.holds Try.pinned (OpenSpec.ofChange fnExactWaitsOfWrong)

/-- 'laws.FnExactReachedFrom': WHATEVER THE INPUT: true; the input reads as it did. -/
def fnExactReachedFromSpec : ChangeSpec := { name := "fnExactReachedFrom", fn := fun _ => fun
  | [d1, d2] => { results := [.lit (.bool true)], args := [d1, d2] }
  | _ => none }
def fnExactReachedFromRow : OpenClaim := { program := "ytahcojaklooliaa", sum := "d9412123790366fcd319fc7daac6d11cef579ff6a7e978a609d7361f83271193", func := "loop.example/g03224/laws.FnExactReachedFrom", spec := "fnExactReachedFrom", unfollowed := true, recurses := true, apart := false }
def FnExactReachedFromSaid : Prop := fnExactReachedFromRow.holds Try.pinned (OpenSpec.ofChange fnExactReachedFromSpec)

/-- ITS FALSE NEIGHBOUR: 'it returns false'. Refute it at one input. -/
def fnExactReachedFromWrong : ChangeSpec := { name := "fnExactReachedFrom", fn := fun _ => fun
  | [d1, d2] => { results := [.lit (.bool false)], args := [d1, d2] }
  | _ => none }
def FnExactReachedFromWrongFalsely : Prop := fnExactReachedFromRow.holds Try.pinned (OpenSpec.ofChange fnExactReachedFromWrong)

/-- 'laws.FnExactHasCycle': WHATEVER THE INPUT: true; the input reads as it did. -/
def fnExactHasCycleSpec : ChangeSpec := { name := "fnExactHasCycle", fn := fun _ => fun
  | [d] => { results := [.lit (.bool true)], args := [d] }
  | _ => none }
def fnExactHasCycleRow : OpenClaim := { program := "ytahcojaklooliaa", sum := "d9412123790366fcd319fc7daac6d11cef579ff6a7e978a609d7361f83271193", func := "loop.example/g03224/laws.FnExactHasCycle", spec := "fnExactHasCycle", unfollowed := true, recurses := true, apart := false }
def FnExactHasCycleSaid : Prop := fnExactHasCycleRow.holds Try.pinned (OpenSpec.ofChange fnExactHasCycleSpec)

/-- ITS FALSE NEIGHBOUR: 'it returns false'. Refute it at one input. -/
def fnExactHasCycleWrong : ChangeSpec := { name := "fnExactHasCycle", fn := fun _ => fun
  | [d] => { results := [.lit (.bool false)], args := [d] }
  | _ => none }
def FnExactHasCycleWrongFalsely : Prop := fnExactHasCycleRow.holds Try.pinned (OpenSpec.ofChange fnExactHasCycleWrong)

/-- 'laws.FnExactFeedNetwork': WHATEVER THE INPUT: true; the input reads as it did. -/
def fnExactFeedNetworkSpec : ChangeSpec := { name := "fnExactFeedNetwork", fn := fun _ => fun
  | [d1, d2, d3] => { results := [.lit (.bool true)], args := [d1, d2, d3] }
  | _ => none }
def fnExactFeedNetworkRow : OpenClaim := { program := "ytahcojaklooliaa", sum := "d9412123790366fcd319fc7daac6d11cef579ff6a7e978a609d7361f83271193", func := "loop.example/g03224/laws.FnExactFeedNetwork", spec := "fnExactFeedNetwork", unfollowed := true, recurses := true, apart := false }
def FnExactFeedNetworkSaid : Prop := fnExactFeedNetworkRow.holds Try.pinned (OpenSpec.ofChange fnExactFeedNetworkSpec)

/-- ITS FALSE NEIGHBOUR: 'it returns false'. Refute it at one input. -/
def fnExactFeedNetworkWrong : ChangeSpec := { name := "fnExactFeedNetwork", fn := fun _ => fun
  | [d1, d2, d3] => { results := [.lit (.bool false)], args := [d1, d2, d3] }
  | _ => none }
def FnExactFeedNetworkWrongFalsely : Prop := fnExactFeedNetworkRow.holds Try.pinned (OpenSpec.ofChange fnExactFeedNetworkWrong)

/-- 'laws.FnExactJoinNetworks': WHATEVER THE INPUT: true; the input reads as it did. -/
def fnExactJoinNetworksSpec : ChangeSpec := { name := "fnExactJoinNetworks", fn := fun _ => fun
  | [d1, d2] => { results := [.lit (.bool true)], args := [d1, d2] }
  | _ => none }
def fnExactJoinNetworksRow : OpenClaim := { program := "ytahcojaklooliaa", sum := "d9412123790366fcd319fc7daac6d11cef579ff6a7e978a609d7361f83271193", func := "loop.example/g03224/laws.FnExactJoinNetworks", spec := "fnExactJoinNetworks", unfollowed := true, recurses := true, apart := false }
def FnExactJoinNetworksSaid : Prop := fnExactJoinNetworksRow.holds Try.pinned (OpenSpec.ofChange fnExactJoinNetworksSpec)

/-- ITS FALSE NEIGHBOUR: 'it returns false'. Refute it at one input. -/
def fnExactJoinNetworksWrong : ChangeSpec := { name := "fnExactJoinNetworks", fn := fun _ => fun
  | [d1, d2] => { results := [.lit (.bool false)], args := [d1, d2] }
  | _ => none }
def FnExactJoinNetworksWrongFalsely : Prop := fnExactJoinNetworksRow.holds Try.pinned (OpenSpec.ofChange fnExactJoinNetworksWrong)

/-- 'laws.FnProcess': WHATEVER THE INPUT: true; the input reads as it did. -/
def fnProcessSpec : ChangeSpec := { name := "fnProcess", fn := fun _ => fun
  | [d] => { results := [.lit (.bool true)], args := [d] }
  | _ => none }
def fnProcessRow : OpenClaim := { program := "ytahcojaklooliaa", sum := "d9412123790366fcd319fc7daac6d11cef579ff6a7e978a609d7361f83271193", func := "loop.example/g03224/laws.FnProcess", spec := "fnProcess", unfollowed := true, recurses := true, apart := false }
def FnProcessSaid : Prop := fnProcessRow.holds Try.pinned (OpenSpec.ofChange fnProcessSpec)

/-- ITS FALSE NEIGHBOUR: 'it returns false'. Refute it at one input. -/
def fnProcessWrong : ChangeSpec := { name := "fnProcess", fn := fun _ => fun
  | [d] => { results := [.lit (.bool false)], args := [d] }
  | _ => none }
def FnProcessWrongFalsely : Prop := fnProcessRow.holds Try.pinned (OpenSpec.ofChange fnProcessWrong)

/-- 'laws.FnRounds': WHATEVER THE INPUT: true; the input reads as it did. -/
def fnRoundsSpec : ChangeSpec := { name := "fnRounds", fn := fun _ => fun
  | [d] => { results := [.lit (.bool true)], args := [d] }
  | _ => none }
def fnRoundsRow : OpenClaim := { program := "ytahcojaklooliaa", sum := "d9412123790366fcd319fc7daac6d11cef579ff6a7e978a609d7361f83271193", func := "loop.example/g03224/laws.FnRounds", spec := "fnRounds", unfollowed := true, recurses := true, apart := false }
def FnRoundsSaid : Prop := fnRoundsRow.holds Try.pinned (OpenSpec.ofChange fnRoundsSpec)

/-- ITS FALSE NEIGHBOUR: 'it returns false'. Refute it at one input. -/
def fnRoundsWrong : ChangeSpec := { name := "fnRounds", fn := fun _ => fun
  | [d] => { results := [.lit (.bool false)], args := [d] }
  | _ => none }
def FnRoundsWrongFalsely : Prop := fnRoundsRow.holds Try.pinned (OpenSpec.ofChange fnRoundsWrong)

/-- 'laws.FnReached': WHATEVER THE INPUT: true; the input reads as it did. -/
def fnReachedSpec : ChangeSpec := { name := "fnReached", fn := fun _ => fun
  | [d] => { results := [.lit (.bool true)], args := [d] }
  | _ => none }
def fnReachedRow : OpenClaim := { program := "ytahcojaklooliaa", sum := "d9412123790366fcd319fc7daac6d11cef579ff6a7e978a609d7361f83271193", func := "loop.example/g03224/laws.FnReached", spec := "fnReached", unfollowed := true, recurses := true, apart := false }
def FnReachedSaid : Prop := fnReachedRow.holds Try.pinned (OpenSpec.ofChange fnReachedSpec)

/-- ITS FALSE NEIGHBOUR: 'it returns false'. Refute it at one input. -/
def fnReachedWrong : ChangeSpec := { name := "fnReached", fn := fun _ => fun
  | [d] => { results := [.lit (.bool false)], args := [d] }
  | _ => none }
def FnReachedWrongFalsely : Prop := fnReachedRow.holds Try.pinned (OpenSpec.ofChange fnReachedWrong)

/- THE SECOND FORM. 'bulk': how many values and letters a reading holds, each counted each time it is reached (what is shared counts as often as it is met; a slice's spare places count too). A statement '..UptoSaid' is the law's where the arguments, and the package variables that the reading takes, are together of bulk at most 1048576: NARROWER than '..Said'. Prove '..Said' where nothing that the law and all that it calls make is longer than what came in: it says more and counts as full. Else prove '..UptoSaid'. A law counts once. -/
mutual
def uptoBulk {H : Type} : DataW H → Nat
  | .lit (.string bytes) => bytes.length + 1
  | .lit _ => 1
  | .nil => 1
  | .ptr d => uptoBulk d + 1
  | .slice elems spare => uptoBulkAll elems + uptoBulkAll spare + 1
  | .agg parts => uptoBulkAll parts + 1
  | .iface _ d => uptoBulk d + 1
  | .map entries => uptoBulkEntries entries + 1
  | .held _ => 1
def uptoBulkAll {H : Type} : List (DataW H) → Nat
  | [] => 0
  | d :: r => uptoBulk d + uptoBulkAll r
def uptoBulkEntries {H : Type} : List (Lit × DataW H) → Nat
  | [] => 0
  | x :: r => uptoBulkEntry x + uptoBulkEntries r
def uptoBulkEntry {H : Type} : Lit × DataW H → Nat
  | (.string bytes, d) => bytes.length + uptoBulk d + 1
  | (_, d) => uptoBulk d + 1
 end
def uptoSmall : (H : Type) → List (DataW H) → Bool := fun _ ds => decide (uptoBulkAll ds ≤ 1048576)
def OpenSpec.upto (s : _root_.Go.ChangeSpec) : _root_.Go.OpenSpec := { _root_.Go.OpenSpec.ofChange s with cond := some uptoSmall }

/-- 'laws.FnExactObserveNetwork', WHERE WHAT IT READS IS OF BULK AT MOST 1048576: true; the input reads as it did. -/
def fnExactObserveNetworkUptoRow : OpenClaim := { program := "ytahcojaklooliaa", sum := "d9412123790366fcd319fc7daac6d11cef579ff6a7e978a609d7361f83271193", func := "loop.example/g03224/laws.FnExactObserveNetwork", spec := "fnExactObserveNetwork", unfollowed := true, recurses := true, apart := false, narrowed := true }
def FnExactObserveNetworkUptoSaid : Prop := fnExactObserveNetworkUptoRow.holds Try.pinned (OpenSpec.upto fnExactObserveNetworkSpec)

/-- 'laws.FnExactWaitsOf', WHERE WHAT IT READS IS OF BULK AT MOST 1048576: true; the input reads as it did. -/
def fnExactWaitsOfUptoRow : OpenClaim := { program := "ytahcojaklooliaa", sum := "d9412123790366fcd319fc7daac6d11cef579ff6a7e978a609d7361f83271193", func := "loop.example/g03224/laws.FnExactWaitsOf", spec := "fnExactWaitsOf", unfollowed := true, recurses := true, apart := false, narrowed := true }
def FnExactWaitsOfUptoSaid : Prop := fnExactWaitsOfUptoRow.holds Try.pinned (OpenSpec.upto fnExactWaitsOfSpec)

/-- 'laws.FnExactReachedFrom', WHERE WHAT IT READS IS OF BULK AT MOST 1048576: true; the input reads as it did. -/
def fnExactReachedFromUptoRow : OpenClaim := { program := "ytahcojaklooliaa", sum := "d9412123790366fcd319fc7daac6d11cef579ff6a7e978a609d7361f83271193", func := "loop.example/g03224/laws.FnExactReachedFrom", spec := "fnExactReachedFrom", unfollowed := true, recurses := true, apart := false, narrowed := true }
def FnExactReachedFromUptoSaid : Prop := fnExactReachedFromUptoRow.holds Try.pinned (OpenSpec.upto fnExactReachedFromSpec)

/-- 'laws.FnExactHasCycle', WHERE WHAT IT READS IS OF BULK AT MOST 1048576: true; the input reads as it did. -/
def fnExactHasCycleUptoRow : OpenClaim := { program := "ytahcojaklooliaa", sum := "d9412123790366fcd319fc7daac6d11cef579ff6a7e978a609d7361f83271193", func := "loop.example/g03224/laws.FnExactHasCycle", spec := "fnExactHasCycle", unfollowed := true, recurses := true, apart := false, narrowed := true }
def FnExactHasCycleUptoSaid : Prop := fnExactHasCycleUptoRow.holds Try.pinned (OpenSpec.upto fnExactHasCycleSpec)

/-- 'laws.FnExactFeedNetwork', WHERE WHAT IT READS IS OF BULK AT MOST 1048576: true; the input reads as it did. -/
def fnExactFeedNetworkUptoRow : OpenClaim := { program := "ytahcojaklooliaa", sum := "d9412123790366fcd319fc7daac6d11cef579ff6a7e978a609d7361f83271193", func := "loop.example/g03224/laws.FnExactFeedNetwork", spec := "fnExactFeedNetwork", unfollowed := true, recurses := true, apart := false, narrowed := true }
def FnExactFeedNetworkUptoSaid : Prop := fnExactFeedNetworkUptoRow.holds Try.pinned (OpenSpec.upto fnExactFeedNetworkSpec)

/-- 'laws.FnExactJoinNetworks', WHERE WHAT IT READS IS OF BULK AT MOST 1048576: true; the input reads as it did. -/
def fnExactJoinNetworksUptoRow : OpenClaim := { program := "ytahcojaklooliaa", sum := "d9412123790366fcd319fc7daac6d11cef579ff6a7e978a609d7361f83271193", func := "loop.example/g03224/laws.FnExactJoinNetworks", spec := "fnExactJoinNetworks", unfollowed := true, recurses := true, apart := false, narrowed := true }
def FnExactJoinNetworksUptoSaid : Prop := fnExactJoinNetworksUptoRow.holds Try.pinned (OpenSpec.upto fnExactJoinNetworksSpec)

/-- 'laws.FnProcess', WHERE WHAT IT READS IS OF BULK AT MOST 1048576: true; the input reads as it did. -/
def fnProcessUptoRow : OpenClaim := { program := "ytahcojaklooliaa", sum := "d9412123790366fcd319fc7daac6d11cef579ff6a7e978a609d7361f83271193", func := "loop.example/g03224/laws.FnProcess", spec := "fnProcess", unfollowed := true, recurses := true, apart := false, narrowed := true }
def FnProcessUptoSaid : Prop := fnProcessUptoRow.holds Try.pinned (OpenSpec.upto fnProcessSpec)

/-- 'laws.FnRounds', WHERE WHAT IT READS IS OF BULK AT MOST 1048576: true; the input reads as it did. -/
def fnRoundsUptoRow : OpenClaim := { program := "ytahcojaklooliaa", sum := "d9412123790366fcd319fc7daac6d11cef579ff6a7e978a609d7361f83271193", func := "loop.example/g03224/laws.FnRounds", spec := "fnRounds", unfollowed := true, recurses := true, apart := false, narrowed := true }
def FnRoundsUptoSaid : Prop := fnRoundsUptoRow.holds Try.pinned (OpenSpec.upto fnRoundsSpec)

/-- 'laws.FnReached', WHERE WHAT IT READS IS OF BULK AT MOST 1048576: true; the input reads as it did. -/
def fnReachedUptoRow : OpenClaim := { program := "ytahcojaklooliaa", sum := "d9412123790366fcd319fc7daac6d11cef579ff6a7e978a609d7361f83271193", func := "loop.example/g03224/laws.FnReached", spec := "fnReached", unfollowed := true, recurses := true, apart := false, narrowed := true }
def FnReachedUptoSaid : Prop := fnReachedUptoRow.holds Try.pinned (OpenSpec.upto fnReachedSpec)

end Rows
end Go.Proofs.Ytahcojaklooliaa
