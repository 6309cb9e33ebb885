/-
  DERIVED. GIVEN WITH THE SEED: THE CARDS: each row of YtdcjlemkegifjaaDoorRows.lean that lists a variable, with what it lists TIED to the program's text (the seventh form; the later family's looks); each row that meets fmt, with fmt's text TOLD by the authors' own Lean function (tested against real Go, not proved from fmt's source: count such statements apart). THE CARD IS WHAT COUNTS. Prove the row's statement (the work); the ties are given (YtdcjlemkegifjaaDoorTie.lean); close each card by the builder's one call (the guide's Derived/Test/ToyasCard.lean, 'card_holds'). Laid BY PROGRAM, IN A SANDBOX (cutbox-door.mjs). By AI agents, Wed Nov 11 2026. No macro, syntax, notation, axiom, sorry.
-/
import Derived.Test.YtdcjlemkegifjaaDoorRows
import GoSem.ClaimSeven
namespace Go.Proofs.YtdcjlemkegifjaaDoor
namespace Rows

/-- THE TIED CARD OF 'laws.FnExactFormatStream'. -/
def fnExactFormatStreamCard : Claim7 := { stood := { row := fnExactFormatStreamRow, standIns := [], harness := (true, "ea4b0bd78822f998962d45a415c3c44deecb2228314e585732be371aaa790531"), looks := true }, kinds := [], alts := [], laidByText := true, laidKinds := [.data, .data, .data], laidTests := true, laidLooks := .later }
def FnExactFormatStreamCardSaid : Prop := Claim7.holds Tryd.pinned (.plain (OpenSpec.ofChange fnExactFormatStreamSpec)) fnExactFormatStreamCard

/-- THE TIED CARD OF 'laws.FnExactParseStream'. -/
def fnExactParseStreamCard : Claim7 := { stood := { row := fnExactParseStreamRow, standIns := [], harness := (true, "ea4b0bd78822f998962d45a415c3c44deecb2228314e585732be371aaa790531"), looks := true }, kinds := [], alts := [], laidByText := true, laidKinds := [.data, .data, .data, .data, .sentinel, .sentinel, .pinned], laidTests := true, laidLooks := .later }
def FnExactParseStreamCardSaid : Prop := Claim7.holds Tryd.pinned (.plain (OpenSpec.ofChange fnExactParseStreamSpec)) fnExactParseStreamCard

/-- THE SECOND FORM's CARD OF 'laws.FnExactFormatStream'. -/
def fnExactFormatStreamUptoCard : Claim7 := { stood := { row := fnExactFormatStreamUptoRow, standIns := [], harness := (true, "ea4b0bd78822f998962d45a415c3c44deecb2228314e585732be371aaa790531"), looks := true }, kinds := [], alts := [], laidByText := true, laidKinds := [.data, .data, .data], laidTests := true, laidLooks := .later }
def FnExactFormatStreamUptoCardSaid : Prop := Claim7.holds Tryd.pinned (.plain (OpenSpec.upto fnExactFormatStreamSpec)) fnExactFormatStreamUptoCard

/-- THE SECOND FORM's CARD OF 'laws.FnExactParseStream'. -/
def fnExactParseStreamUptoCard : Claim7 := { stood := { row := fnExactParseStreamUptoRow, standIns := [], harness := (true, "ea4b0bd78822f998962d45a415c3c44deecb2228314e585732be371aaa790531"), looks := true }, kinds := [], alts := [], laidByText := true, laidKinds := [.data, .data, .data, .data, .sentinel, .sentinel, .pinned], laidTests := true, laidLooks := .later }
def FnExactParseStreamUptoCardSaid : Prop := Claim7.holds Tryd.pinned (.plain (OpenSpec.upto fnExactParseStreamSpec)) fnExactParseStreamUptoCard
end Rows
end Go.Proofs.YtdcjlemkegifjaaDoor
