/-
  No cell of these rows narrows 'for every input' (looked for: loops, veiled, ifaces, maps, wideKeys, modest, calm, conditions, laid).
  DERIVED. THE GIVEN ROWS OF THIS SEAT. 9 by the template 'for every input the law returns true; each argument reads behind the call as it read before'; 0 by the template 'total and deterministic' (their statements: YtimgfinlbhodhaaTotals.lean).
  GIVEN WITH THE SEED: the statements are not yours to turn. If you find one false, say at which input.
  Laid BY PROGRAM, IN A SANDBOX (cutbox-rows.mjs): the forced cells as the released guide's own fill.sh prints them over the translation 5ee0cd8b0801b611… (all of the seat's roots in one cut). By AI agents, Wed Nov 11 2026. No macro, syntax, notation, axiom, sorry.
-/
import Derived.Test.YtimgfinlbhodhaaChecked
import GoSem.Claim
import GoSem.ClaimJoined
import GoSem.ClaimMapViews
import Derived.JoinedTies
import Derived.KernelRfl
namespace Go.Proofs.Ytimgfinlbhodhaa
/- THE CELL 'sum', in the pinned program and in every row, IS THE sha256 OF THE DUMP (.gsa) THAT YtimgfinlbhodhaaProg.lean LOADS. Nothing in Lean hashes anything: it is a label: what it is worth is what the hold of that sum in a sandbox is worth. -/
noncomputable def Try.pinned : Pinned := { name := "ytimgfinlbhodhaa", sum := "5ee0cd8b0801b611a5ab971bc04249628a84d1090243a3f612356d2cc873d2e6", checked := Try.checked }
namespace Rows
def none {H : Type} : Left H := { results := [], args := [] }

/-- 'laws.FnKept': WHATEVER THE INPUT: true; the input reads as it did. -/
def fnKeptSpec : ChangeSpec := { name := "fnKept", fn := fun _ => fun
  | [d] => { results := [.lit (.bool true)], args := [d] }
  | _ => none }
def fnKeptRow : OpenClaim := { program := "ytimgfinlbhodhaa", sum := "5ee0cd8b0801b611a5ab971bc04249628a84d1090243a3f612356d2cc873d2e6", func := "loop.example/g03224/laws.FnKept", spec := "fnKept", unfollowed := true, recurses := true, apart := false }
def FnKeptSaid : Prop := fnKeptRow.holds Try.pinned (OpenSpec.ofChange fnKeptSpec)

/-- ITS FALSE NEIGHBOUR: 'it returns false'. Refute it at one input. -/
def fnKeptWrong : ChangeSpec := { name := "fnKept", fn := fun _ => fun
  | [d] => { results := [.lit (.bool false)], args := [d] }
  | _ => none }
def FnKeptWrongFalsely : Prop := fnKeptRow.holds Try.pinned (OpenSpec.ofChange fnKeptWrong)

/-- 'laws.FnKahn': WHATEVER THE INPUT: true; the input reads as it did. -/
def fnKahnSpec : ChangeSpec := { name := "fnKahn", fn := fun _ => fun
  | [d] => { results := [.lit (.bool true)], args := [d] }
  | _ => none }
def fnKahnRow : OpenClaim := { program := "ytimgfinlbhodhaa", sum := "5ee0cd8b0801b611a5ab971bc04249628a84d1090243a3f612356d2cc873d2e6", func := "loop.example/g03224/laws.FnKahn", spec := "fnKahn", unfollowed := true, recurses := true, apart := false }
def FnKahnSaid : Prop := fnKahnRow.holds Try.pinned (OpenSpec.ofChange fnKahnSpec)

/-- ITS FALSE NEIGHBOUR: 'it returns false'. Refute it at one input. -/
def fnKahnWrong : ChangeSpec := { name := "fnKahn", fn := fun _ => fun
  | [d] => { results := [.lit (.bool false)], args := [d] }
  | _ => none }
def FnKahnWrongFalsely : Prop := fnKahnRow.holds Try.pinned (OpenSpec.ofChange fnKahnWrong)

/-- 'laws.FnProcess': WHATEVER THE INPUT: true; the input reads as it did. -/
def fnProcessSpec : ChangeSpec := { name := "fnProcess", fn := fun _ => fun
  | [d] => { results := [.lit (.bool true)], args := [d] }
  | _ => none }
def fnProcessRow : OpenClaim := { program := "ytimgfinlbhodhaa", sum := "5ee0cd8b0801b611a5ab971bc04249628a84d1090243a3f612356d2cc873d2e6", func := "loop.example/g03224/laws.FnProcess", spec := "fnProcess", unfollowed := true, recurses := true, apart := false }
def FnProcessSaid : Prop := fnProcessRow.holds Try.pinned (OpenSpec.ofChange fnProcessSpec)

/-- ITS FALSE NEIGHBOUR: 'it returns false'. Refute it at one input. -/
def fnProcessWrong : ChangeSpec := { name := "fnProcess", fn := fun _ => fun
  | [d] => { results := [.lit (.bool false)], args := [d] }
  | _ => none }
def FnProcessWrongFalsely : Prop := fnProcessRow.holds Try.pinned (OpenSpec.ofChange fnProcessWrong)

/-- 'laws.FnExactJoinNetworks': WHATEVER THE INPUT: true; the input reads as it did. -/
def fnExactJoinNetworksSpec : ChangeSpec := { name := "fnExactJoinNetworks", fn := fun _ => fun
  | [d1, d2] => { results := [.lit (.bool true)], args := [d1, d2] }
  | _ => none }
def fnExactJoinNetworksRow : OpenClaim := { program := "ytimgfinlbhodhaa", sum := "5ee0cd8b0801b611a5ab971bc04249628a84d1090243a3f612356d2cc873d2e6", func := "loop.example/g03224/laws.FnExactJoinNetworks", spec := "fnExactJoinNetworks", unfollowed := true, recurses := true, apart := false }
def FnExactJoinNetworksSaid : Prop := fnExactJoinNetworksRow.holds Try.pinned (OpenSpec.ofChange fnExactJoinNetworksSpec)

/-- ITS FALSE NEIGHBOUR: 'it returns false'. Refute it at one input. -/
def fnExactJoinNetworksWrong : ChangeSpec := { name := "fnExactJoinNetworks", fn := fun _ => fun
  | [d1, d2] => { results := [.lit (.bool false)], args := [d1, d2] }
  | _ => none }
def FnExactJoinNetworksWrongFalsely : Prop := fnExactJoinNetworksRow.holds Try.pinned (OpenSpec.ofChange fnExactJoinNetworksWrong)

/-- 'laws.FnReached': WHATEVER THE INPUT: true; the input reads as it did. -/
def fnReachedSpec : ChangeSpec := { name := "fnReached", fn := fun _ => fun
  | [d] => { results := [.lit (.bool true)], args := [d] }
  | _ => none }
def fnReachedRow : OpenClaim := { program := "ytimgfinlbhodhaa", sum := "5ee0cd8b0801b611a5ab971bc04249628a84d1090243a3f612356d2cc873d2e6", func := "loop.example/g03224/laws.FnReached", spec := "fnReached", unfollowed := true, recurses := true, apart := false }
def FnReachedSaid : Prop := fnReachedRow.holds Try.pinned (OpenSpec.ofChange fnReachedSpec)

/-- ITS FALSE NEIGHBOUR: 'it returns false'. Refute it at one input. -/
def fnReachedWrong : ChangeSpec := { name := "fnReached", fn := fun _ => fun
  | [d] => { results := [.lit (.bool false)], args := [d] }
  | _ => none }
def FnReachedWrongFalsely : Prop := fnReachedRow.holds Try.pinned (OpenSpec.ofChange fnReachedWrong)

/-- 'laws.FnRounds': WHATEVER THE INPUT: true; the input reads as it did. -/
def fnRoundsSpec : ChangeSpec := { name := "fnRounds", fn := fun _ => fun
  | [d] => { results := [.lit (.bool true)], args := [d] }
  | _ => none }
def fnRoundsRow : OpenClaim := { program := "ytimgfinlbhodhaa", sum := "5ee0cd8b0801b611a5ab971bc04249628a84d1090243a3f612356d2cc873d2e6", func := "loop.example/g03224/laws.FnRounds", spec := "fnRounds", unfollowed := true, recurses := true, apart := false }
def FnRoundsSaid : Prop := fnRoundsRow.holds Try.pinned (OpenSpec.ofChange fnRoundsSpec)

/-- ITS FALSE NEIGHBOUR: 'it returns false'. Refute it at one input. -/
def fnRoundsWrong : ChangeSpec := { name := "fnRounds", fn := fun _ => fun
  | [d] => { results := [.lit (.bool false)], args := [d] }
  | _ => none }
def FnRoundsWrongFalsely : Prop := fnRoundsRow.holds Try.pinned (OpenSpec.ofChange fnRoundsWrong)

/-- 'laws.FnWaits': WHATEVER THE INPUT: true; the input reads as it did. -/
def fnWaitsSpec : ChangeSpec := { name := "fnWaits", fn := fun _ => fun
  | [d] => { results := [.lit (.bool true)], args := [d] }
  | _ => none }
def fnWaitsRow : OpenClaim := { program := "ytimgfinlbhodhaa", sum := "5ee0cd8b0801b611a5ab971bc04249628a84d1090243a3f612356d2cc873d2e6", func := "loop.example/g03224/laws.FnWaits", spec := "fnWaits", unfollowed := true, recurses := true, apart := false }
def FnWaitsSaid : Prop := fnWaitsRow.holds Try.pinned (OpenSpec.ofChange fnWaitsSpec)

/-- ITS FALSE NEIGHBOUR: 'it returns false'. Refute it at one input. -/
def fnWaitsWrong : ChangeSpec := { name := "fnWaits", fn := fun _ => fun
  | [d] => { results := [.lit (.bool false)], args := [d] }
  | _ => none }
def FnWaitsWrongFalsely : Prop := fnWaitsRow.holds Try.pinned (OpenSpec.ofChange fnWaitsWrong)

/-- 'laws.FnChained': WHATEVER THE INPUT: true; the input reads as it did. -/
def fnChainedSpec : ChangeSpec := { name := "fnChained", fn := fun _ => fun
  | [d] => { results := [.lit (.bool true)], args := [d] }
  | _ => none }
def fnChainedRow : OpenClaim := { program := "ytimgfinlbhodhaa", sum := "5ee0cd8b0801b611a5ab971bc04249628a84d1090243a3f612356d2cc873d2e6", func := "loop.example/g03224/laws.FnChained", spec := "fnChained", unfollowed := true, recurses := true, apart := false }
def FnChainedSaid : Prop := fnChainedRow.holds Try.pinned (OpenSpec.ofChange fnChainedSpec)

/-- ITS FALSE NEIGHBOUR: 'it returns false'. Refute it at one input. -/
def fnChainedWrong : ChangeSpec := { name := "fnChained", fn := fun _ => fun
  | [d] => { results := [.lit (.bool false)], args := [d] }
  | _ => none }
def FnChainedWrongFalsely : Prop := fnChainedRow.holds Try.pinned (OpenSpec.ofChange fnChainedWrong)

/-- 'laws.FnMonotone': WHATEVER THE INPUT: true; the input reads as it did. -/
def fnMonotoneSpec : ChangeSpec := { name := "fnMonotone", fn := fun _ => fun
  | [d] => { results := [.lit (.bool true)], args := [d] }
  | _ => none }
def fnMonotoneRow : OpenClaim := { program := "ytimgfinlbhodhaa", sum := "5ee0cd8b0801b611a5ab971bc04249628a84d1090243a3f612356d2cc873d2e6", func := "loop.example/g03224/laws.FnMonotone", spec := "fnMonotone", unfollowed := true, recurses := true, apart := false }
def FnMonotoneSaid : Prop := fnMonotoneRow.holds Try.pinned (OpenSpec.ofChange fnMonotoneSpec)

/-- ITS FALSE NEIGHBOUR: 'it returns false'. Refute it at one input. -/
def fnMonotoneWrong : ChangeSpec := { name := "fnMonotone", fn := fun _ => fun
  | [d] => { results := [.lit (.bool false)], args := [d] }
  | _ => none }
def FnMonotoneWrongFalsely : Prop := fnMonotoneRow.holds Try.pinned (OpenSpec.ofChange fnMonotoneWrong)

/- THE SECOND FORM. 'bulk': how many values and letters a reading holds, each counted each time it is reached (what is shared counts as often as it is met; a slice's spare places count too). A statement '..UptoSaid' is the law's where the arguments, and the package variables that the reading takes, are together of bulk at most 1048576: NARROWER than '..Said'. Prove '..Said' where nothing that the law and all that it calls make is longer than what came in: it says more and counts as full. Else prove '..UptoSaid'. A law counts once. -/
mutual
def uptoBulk {H : Type} : DataW H → Nat
  | .lit (.string bytes) => bytes.length + 1
  | .lit _ => 1
  | .nil => 1
  | .ptr d => uptoBulk d + 1
  | .slice elems spare => uptoBulkAll elems + uptoBulkAll spare + 1
  | .agg parts => uptoBulkAll parts + 1
  | .iface _ d => uptoBulk d + 1
  | .map entries => uptoBulkEntries entries + 1
  | .held _ => 1
def uptoBulkAll {H : Type} : List (DataW H) → Nat
  | [] => 0
  | d :: r => uptoBulk d + uptoBulkAll r
def uptoBulkEntries {H : Type} : List (Lit × DataW H) → Nat
  | [] => 0
  | x :: r => uptoBulkEntry x + uptoBulkEntries r
def uptoBulkEntry {H : Type} : Lit × DataW H → Nat
  | (.string bytes, d) => bytes.length + uptoBulk d + 1
  | (_, d) => uptoBulk d + 1
 end
def uptoSmall : (H : Type) → List (DataW H) → Bool := fun _ ds => decide (uptoBulkAll ds ≤ 1048576)
def OpenSpec.upto (s : _root_.Go.ChangeSpec) : _root_.Go.OpenSpec := { _root_.Go.OpenSpec.ofChange s with cond := some uptoSmall }

/-- 'laws.FnKept', WHERE WHAT IT READS IS OF BULK AT MOST 1048576: true; the input reads as it did. -/
def fnKeptUptoRow : OpenClaim := { program := "ytimgfinlbhodhaa", sum := "5ee0cd8b0801b611a5ab971bc04249628a84d1090243a3f612356d2cc873d2e6", func := "loop.example/g03224/laws.FnKept", spec := "fnKept", unfollowed := true, recurses := true, apart := false, narrowed := true }
def FnKeptUptoSaid : Prop := fnKeptUptoRow.holds Try.pinned (OpenSpec.upto fnKeptSpec)

/-- 'laws.FnKahn', WHERE WHAT IT READS IS OF BULK AT MOST 1048576: true; the input reads as it did. -/
def fnKahnUptoRow : OpenClaim := { program := "ytimgfinlbhodhaa", sum := "5ee0cd8b0801b611a5ab971bc04249628a84d1090243a3f612356d2cc873d2e6", func := "loop.example/g03224/laws.FnKahn", spec := "fnKahn", unfollowed := true, recurses := true, apart := false, narrowed := true }
def FnKahnUptoSaid : Prop := fnKahnUptoRow.holds Try.pinned (OpenSpec.upto fnKahnSpec)

/-- 'laws.FnProcess', WHERE WHAT IT READS IS OF BULK AT MOST 1048576: true; the input reads as it did. -/
def fnProcessUptoRow : OpenClaim := { program := "ytimgfinlbhodhaa", sum := "5ee0cd8b0801b611a5ab971bc04249628a84d1090243a3f612356d2cc873d2e6", func := "loop.example/g03224/laws.FnProcess", spec := "fnProcess", unfollowed := true, recurses := true, apart := false, narrowed := true }
def FnProcessUptoSaid : Prop := fnProcessUptoRow.holds Try.pinned (OpenSpec.upto fnProcessSpec)

/-- 'laws.FnExactJoinNetworks', WHERE WHAT IT READS IS OF BULK AT MOST 1048576: true; the input reads as it did. -/
def fnExactJoinNetworksUptoRow : OpenClaim := { program := "ytimgfinlbhodhaa", sum := "5ee0cd8b0801b611a5ab971bc04249628a84d1090243a3f612356d2cc873d2e6", func := "loop.example/g03224/laws.FnExactJoinNetworks", spec := "fnExactJoinNetworks", unfollowed := true, recurses := true, apart := false, narrowed := true }
def FnExactJoinNetworksUptoSaid : Prop := fnExactJoinNetworksUptoRow.holds Try.pinned (OpenSpec.upto fnExactJoinNetworksSpec)

/-- 'laws.FnReached', WHERE WHAT IT READS IS OF BULK AT MOST 1048576: true; the input reads as it did. -/
def fnReachedUptoRow : OpenClaim := { program := "ytimgfinlbhodhaa", sum := "5ee0cd8b0801b611a5ab971bc04249628a84d1090243a3f612356d2cc873d2e6", func := "loop.example/g03224/laws.FnReached", spec := "fnReached", unfollowed := true, recurses := true, apart := false, narrowed := true }
def FnReachedUptoSaid : Prop := fnReachedUptoRow.holds Try.pinned (OpenSpec.upto fnReachedSpec)

/-- 'laws.FnRounds', WHERE WHAT IT READS IS OF BULK AT MOST 1048576: true; the input reads as it did. -/
def fnRoundsUptoRow : OpenClaim := { program := "ytimgfinlbhodhaa", sum := "5ee0cd8b0801b611a5ab971bc04249628a84d1090243a3f612356d2cc873d2e6", func := "loop.example/g03224/laws.FnRounds", spec := "fnRounds", unfollowed := true, recurses := true, apart := false, narrowed := true }
def FnRoundsUptoSaid : Prop := fnRoundsUptoRow.holds Try.pinned (OpenSpec.upto fnRoundsSpec)

/-- 'laws.FnWaits', WHERE WHAT IT READS IS OF BULK AT MOST 1048576: true; the input reads as it did. -/
def fnWaitsUptoRow : OpenClaim := { program := "ytimgfinlbhodhaa", sum := "5ee0cd8b0801b611a5ab971bc04249628a84d1090243a3f612356d2cc873d2e6", func := "loop.example/g03224/laws.FnWaits", spec := "fnWaits", unfollowed := true, recurses := true, apart := false, narrowed := true }
def FnWaitsUptoSaid : Prop := fnWaitsUptoRow.holds Try.pinned (OpenSpec.upto fnWaitsSpec)

/-- 'laws.FnChained', WHERE WHAT IT READS IS OF BULK AT MOST 1048576: true; the input reads as it did. -/
def fnChainedUptoRow : OpenClaim := { program := "ytimgfinlbhodhaa", sum := "5ee0cd8b0801b611a5ab971bc04249628a84d1090243a3f612356d2cc873d2e6", func := "loop.example/g03224/laws.FnChained", spec := "fnChained", unfollowed := true, recurses := true, apart := false, narrowed := true }
def FnChainedUptoSaid : Prop := fnChainedUptoRow.holds Try.pinned (OpenSpec.upto fnChainedSpec)

/-- 'laws.FnMonotone', WHERE WHAT IT READS IS OF BULK AT MOST 1048576: true; the input reads as it did. -/
def fnMonotoneUptoRow : OpenClaim := { program := "ytimgfinlbhodhaa", sum := "5ee0cd8b0801b611a5ab971bc04249628a84d1090243a3f612356d2cc873d2e6", func := "loop.example/g03224/laws.FnMonotone", spec := "fnMonotone", unfollowed := true, recurses := true, apart := false, narrowed := true }
def FnMonotoneUptoSaid : Prop := fnMonotoneUptoRow.holds Try.pinned (OpenSpec.upto fnMonotoneSpec)

end Rows
end Go.Proofs.Ytimgfinlbhodhaa
