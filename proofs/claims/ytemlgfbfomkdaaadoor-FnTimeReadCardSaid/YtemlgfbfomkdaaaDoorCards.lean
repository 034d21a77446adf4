/-
  DERIVED. GIVEN WITH THE SEED: THE CARDS: each row of YtemlgfbfomkdaaaDoorRows.lean that lists a variable, with what it lists TIED to the program's text (the seventh form; the later family's looks); each row that meets fmt, with fmt's text TOLD by the authors' own Lean function (tested against real Go, not proved from fmt's source: count such statements apart). THE CARD IS WHAT COUNTS. Prove the row's statement (the work); the ties are given (YtemlgfbfomkdaaaDoorTie.lean); close each card by the builder's one call (the guide's Derived/Test/ToyasCard.lean, 'card_holds'). Laid BY PROGRAM, IN A SANDBOX (cutbox-door.mjs). By AI agents, Wed Nov 11 2026. No macro, syntax, notation, axiom, sorry.
-/
import Derived.Test.YtemlgfbfomkdaaaDoorRows
import GoSem.ClaimSeven
namespace Go.Proofs.YtemlgfbfomkdaaaDoor
namespace Rows

/-- THE TIED CARD OF 'laws.FnExactParseTime'. -/
def fnExactParseTimeCard : Claim7 := { stood := { row := fnExactParseTimeRow, standIns := [], harness := (true, "7657edcdceca82a80a81fd3696589a4ccd719ca7792cd65aecf25b791ed95700"), looks := true }, kinds := [], alts := [], laidByText := true, laidKinds := [.data, .data, .data, .sentinel, .sentinel], laidTests := true, laidLooks := .later }
def FnExactParseTimeCardSaid : Prop := Claim7.holds Tryd.pinned (.plain (OpenSpec.ofChange fnExactParseTimeSpec)) fnExactParseTimeCard

/-- THE TIED CARD OF 'laws.FnTimeRead'. -/
def fnTimeReadCard : Claim7 := { stood := { row := fnTimeReadRow, standIns := [], harness := (true, "7657edcdceca82a80a81fd3696589a4ccd719ca7792cd65aecf25b791ed95700"), looks := true }, kinds := [], alts := [], laidByText := true, laidKinds := [.data, .data, .data, .data, .sentinel, .sentinel, .pinned], laidTests := true, laidLooks := .later }
def FnTimeReadCardSaid : Prop := Claim7.holds Tryd.pinned (.plain (OpenSpec.ofChange fnTimeReadSpec)) fnTimeReadCard

/-- THE TIED CARD OF 'laws.FnExactParseLeg'. -/
def fnExactParseLegCard : Claim7 := { stood := { row := fnExactParseLegRow, standIns := [], harness := (true, "7657edcdceca82a80a81fd3696589a4ccd719ca7792cd65aecf25b791ed95700"), looks := true }, kinds := [], alts := [], laidByText := true, laidKinds := [.data, .data, .data, .data, .sentinel, .sentinel, .pinned], laidTests := true, laidLooks := .later }
def FnExactParseLegCardSaid : Prop := Claim7.holds Tryd.pinned (.plain (OpenSpec.ofChange fnExactParseLegSpec)) fnExactParseLegCard

/-- THE SECOND FORM's CARD OF 'laws.FnExactParseTime'. -/
def fnExactParseTimeUptoCard : Claim7 := { stood := { row := fnExactParseTimeUptoRow, standIns := [], harness := (true, "7657edcdceca82a80a81fd3696589a4ccd719ca7792cd65aecf25b791ed95700"), looks := true }, kinds := [], alts := [], laidByText := true, laidKinds := [.data, .data, .data, .sentinel, .sentinel], laidTests := true, laidLooks := .later }
def FnExactParseTimeUptoCardSaid : Prop := Claim7.holds Tryd.pinned (.plain (OpenSpec.upto fnExactParseTimeSpec)) fnExactParseTimeUptoCard

/-- THE SECOND FORM's CARD OF 'laws.FnTimeRead'. -/
def fnTimeReadUptoCard : Claim7 := { stood := { row := fnTimeReadUptoRow, standIns := [], harness := (true, "7657edcdceca82a80a81fd3696589a4ccd719ca7792cd65aecf25b791ed95700"), looks := true }, kinds := [], alts := [], laidByText := true, laidKinds := [.data, .data, .data, .data, .sentinel, .sentinel, .pinned], laidTests := true, laidLooks := .later }
def FnTimeReadUptoCardSaid : Prop := Claim7.holds Tryd.pinned (.plain (OpenSpec.upto fnTimeReadSpec)) fnTimeReadUptoCard

/-- THE SECOND FORM's CARD OF 'laws.FnExactParseLeg'. -/
def fnExactParseLegUptoCard : Claim7 := { stood := { row := fnExactParseLegUptoRow, standIns := [], harness := (true, "7657edcdceca82a80a81fd3696589a4ccd719ca7792cd65aecf25b791ed95700"), looks := true }, kinds := [], alts := [], laidByText := true, laidKinds := [.data, .data, .data, .data, .sentinel, .sentinel, .pinned], laidTests := true, laidLooks := .later }
def FnExactParseLegUptoCardSaid : Prop := Claim7.holds Tryd.pinned (.plain (OpenSpec.upto fnExactParseLegSpec)) fnExactParseLegUptoCard
end Rows
end Go.Proofs.YtemlgfbfomkdaaaDoor
