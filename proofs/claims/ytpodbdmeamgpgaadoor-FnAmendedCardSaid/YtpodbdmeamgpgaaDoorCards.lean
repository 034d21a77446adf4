/-
  DERIVED. GIVEN WITH THE SEED: THE CARDS: each row of YtpodbdmeamgpgaaDoorRows.lean that lists a variable, with what it lists TIED to the program's text (the seventh form; the later family's looks); each row that meets fmt, with fmt's text TOLD by the authors' own Lean function (tested against real Go, not proved from fmt's source: count such statements apart). THE CARD IS WHAT COUNTS. Prove the row's statement (the work); the ties are given (YtpodbdmeamgpgaaDoorTie.lean); close each card by the builder's one call (the guide's Derived/Test/ToyasCard.lean, 'card_holds'). Laid BY PROGRAM, IN A SANDBOX (cutbox-door.mjs). By AI agents, Wed Nov 11 2026. No macro, syntax, notation, axiom, sorry.
-/
import Derived.Test.YtpodbdmeamgpgaaDoorRows
import GoSem.ClaimSeven
namespace Go.Proofs.YtpodbdmeamgpgaaDoor
namespace Rows

/-- THE TIED CARD OF 'laws.FnExactFormatInt'. -/
def fnExactFormatIntCard : Claim7 := { stood := { row := fnExactFormatIntRow, standIns := [], harness := (true, "ac3484daf44d4cf986eeb9eb5a06ab3ec1d761592f96b82c5d20839df5919c8d"), looks := true }, kinds := [], alts := [], laidByText := true, laidKinds := [.data, .data, .data], laidTests := true, laidLooks := .later }
def FnExactFormatIntCardSaid : Prop := Claim7.holds Tryd.pinned (.plain (OpenSpec.ofChange fnExactFormatIntSpec)) fnExactFormatIntCard

/-- THE TIED CARD OF 'laws.FnExactDigits'. -/
def fnExactDigitsCard : Claim7 := { stood := { row := fnExactDigitsRow, standIns := [], harness := (true, "ac3484daf44d4cf986eeb9eb5a06ab3ec1d761592f96b82c5d20839df5919c8d"), looks := true }, kinds := [], alts := [], laidByText := true, laidKinds := [.data, .data, .data], laidTests := true, laidLooks := .later }
def FnExactDigitsCardSaid : Prop := Claim7.holds Tryd.pinned (.plain (OpenSpec.ofChange fnExactDigitsSpec)) fnExactDigitsCard

/-- THE TIED CARD OF 'laws.FnExactFormatTime'. -/
def fnExactFormatTimeCard : Claim7 := { stood := { row := fnExactFormatTimeRow, standIns := [], harness := (true, "ac3484daf44d4cf986eeb9eb5a06ab3ec1d761592f96b82c5d20839df5919c8d"), looks := true }, kinds := [], alts := [], laidByText := true, laidKinds := [.data, .data, .data], laidTests := true, laidLooks := .later }
def FnExactFormatTimeCardSaid : Prop := Claim7.holds Tryd.pinned (.plain (OpenSpec.ofChange fnExactFormatTimeSpec)) fnExactFormatTimeCard

/-- THE TIED CARD OF 'laws.FnExactFormatLeg'. -/
def fnExactFormatLegCard : Claim7 := { stood := { row := fnExactFormatLegRow, standIns := [], harness := (true, "ac3484daf44d4cf986eeb9eb5a06ab3ec1d761592f96b82c5d20839df5919c8d"), looks := true }, kinds := [], alts := [], laidByText := true, laidKinds := [.data, .data, .data], laidTests := true, laidLooks := .later }
def FnExactFormatLegCardSaid : Prop := Claim7.holds Tryd.pinned (.plain (OpenSpec.ofChange fnExactFormatLegSpec)) fnExactFormatLegCard

/-- THE TIED CARD OF 'laws.FnExactCheckOf'. -/
def fnExactCheckOfCard : Claim7 := { stood := { row := fnExactCheckOfRow, standIns := [], harness := (true, "ac3484daf44d4cf986eeb9eb5a06ab3ec1d761592f96b82c5d20839df5919c8d"), looks := true }, kinds := [], alts := [], laidByText := true, laidKinds := [.data, .data, .data], laidTests := true, laidLooks := .later }
def FnExactCheckOfCardSaid : Prop := Claim7.holds Tryd.pinned (.plain (OpenSpec.ofChange fnExactCheckOfSpec)) fnExactCheckOfCard

/-- THE TIED CARD OF 'laws.FnExactFormatLabel'. -/
def fnExactFormatLabelCard : Claim7 := { stood := { row := fnExactFormatLabelRow, standIns := [], harness := (true, "ac3484daf44d4cf986eeb9eb5a06ab3ec1d761592f96b82c5d20839df5919c8d"), looks := true }, kinds := [], alts := [], laidByText := true, laidKinds := [.data, .data, .data], laidTests := true, laidLooks := .later }
def FnExactFormatLabelCardSaid : Prop := Claim7.holds Tryd.pinned (.plain (OpenSpec.ofChange fnExactFormatLabelSpec)) fnExactFormatLabelCard

/-- THE TIED CARD OF 'laws.FnExactParseInt'. -/
def fnExactParseIntCard : Claim7 := { stood := { row := fnExactParseIntRow, standIns := [], harness := (true, "ac3484daf44d4cf986eeb9eb5a06ab3ec1d761592f96b82c5d20839df5919c8d"), looks := true }, kinds := [], alts := [], laidByText := true, laidKinds := [.data, .data, .data, .sentinel, .sentinel], laidTests := true, laidLooks := .later }
def FnExactParseIntCardSaid : Prop := Claim7.holds Tryd.pinned (.plain (OpenSpec.ofChange fnExactParseIntSpec)) fnExactParseIntCard

/-- THE TIED CARD OF 'laws.FnRemainder'. -/
def fnRemainderCard : Claim7 := { stood := { row := fnRemainderRow, standIns := [], harness := (true, "ac3484daf44d4cf986eeb9eb5a06ab3ec1d761592f96b82c5d20839df5919c8d"), looks := true }, kinds := [], alts := [], laidByText := true, laidKinds := [.data, .data, .data, .sentinel, .sentinel], laidTests := true, laidLooks := .later }
def FnRemainderCardSaid : Prop := Claim7.holds Tryd.pinned (.plain (OpenSpec.ofChange fnRemainderSpec)) fnRemainderCard

/-- THE TIED CARD OF 'laws.FnLabelRead'. -/
def fnLabelReadCard : Claim7 := { stood := { row := fnLabelReadRow, standIns := [], harness := (true, "ac3484daf44d4cf986eeb9eb5a06ab3ec1d761592f96b82c5d20839df5919c8d"), looks := true }, kinds := [], alts := [], laidByText := true, laidKinds := [.data, .data, .data, .sentinel, .sentinel], laidTests := true, laidLooks := .later }
def FnLabelReadCardSaid : Prop := Claim7.holds Tryd.pinned (.plain (OpenSpec.ofChange fnLabelReadSpec)) fnLabelReadCard

/-- THE TIED CARD OF 'laws.FnExactParseLabel'. -/
def fnExactParseLabelCard : Claim7 := { stood := { row := fnExactParseLabelRow, standIns := [], harness := (true, "ac3484daf44d4cf986eeb9eb5a06ab3ec1d761592f96b82c5d20839df5919c8d"), looks := true }, kinds := [], alts := [], laidByText := true, laidKinds := [.data, .data, .data, .sentinel, .sentinel], laidTests := true, laidLooks := .later }
def FnExactParseLabelCardSaid : Prop := Claim7.holds Tryd.pinned (.plain (OpenSpec.ofChange fnExactParseLabelSpec)) fnExactParseLabelCard

/-- THE TIED CARD OF 'laws.FnOneChange'. -/
def fnOneChangeCard : Claim7 := { stood := { row := fnOneChangeRow, standIns := [], harness := (true, "ac3484daf44d4cf986eeb9eb5a06ab3ec1d761592f96b82c5d20839df5919c8d"), looks := true }, kinds := [], alts := [], laidByText := true, laidKinds := [.data, .data, .data, .sentinel, .sentinel], laidTests := true, laidLooks := .later }
def FnOneChangeCardSaid : Prop := Claim7.holds Tryd.pinned (.plain (OpenSpec.ofChange fnOneChangeSpec)) fnOneChangeCard

/-- THE TIED CARD OF 'laws.FnExactParseTime'. -/
def fnExactParseTimeCard : Claim7 := { stood := { row := fnExactParseTimeRow, standIns := [], harness := (true, "ac3484daf44d4cf986eeb9eb5a06ab3ec1d761592f96b82c5d20839df5919c8d"), looks := true }, kinds := [], alts := [], laidByText := true, laidKinds := [.data, .data, .data, .sentinel, .sentinel], laidTests := true, laidLooks := .later }
def FnExactParseTimeCardSaid : Prop := Claim7.holds Tryd.pinned (.plain (OpenSpec.ofChange fnExactParseTimeSpec)) fnExactParseTimeCard

/-- THE TIED CARD OF 'laws.FnOneSwap'. -/
def fnOneSwapCard : Claim7 := { stood := { row := fnOneSwapRow, standIns := [], harness := (true, "ac3484daf44d4cf986eeb9eb5a06ab3ec1d761592f96b82c5d20839df5919c8d"), looks := true }, kinds := [], alts := [], laidByText := true, laidKinds := [.data, .data, .data, .sentinel, .sentinel], laidTests := true, laidLooks := .later }
def FnOneSwapCardSaid : Prop := Claim7.holds Tryd.pinned (.plain (OpenSpec.ofChange fnOneSwapSpec)) fnOneSwapCard

/-- THE TIED CARD OF 'laws.FnExactAmended'. -/
def fnExactAmendedCard : Claim7 := { stood := { row := fnExactAmendedRow, standIns := [], harness := (true, "ac3484daf44d4cf986eeb9eb5a06ab3ec1d761592f96b82c5d20839df5919c8d"), looks := true }, kinds := [], alts := [], laidByText := true, laidKinds := [.data, .data, .data, .sentinel, .sentinel], laidTests := true, laidLooks := .later }
def FnExactAmendedCardSaid : Prop := Claim7.holds Tryd.pinned (.plain (OpenSpec.ofChange fnExactAmendedSpec)) fnExactAmendedCard

/-- THE TIED CARD OF 'laws.FnAmended'. -/
def fnAmendedCard : Claim7 := { stood := { row := fnAmendedRow, standIns := [], harness := (true, "ac3484daf44d4cf986eeb9eb5a06ab3ec1d761592f96b82c5d20839df5919c8d"), looks := true }, kinds := [], alts := [], laidByText := true, laidKinds := [.data, .data, .data, .sentinel, .sentinel], laidTests := true, laidLooks := .later }
def FnAmendedCardSaid : Prop := Claim7.holds Tryd.pinned (.plain (OpenSpec.ofChange fnAmendedSpec)) fnAmendedCard

/-- THE TIED CARD OF 'laws.FnTimeRead'. -/
def fnTimeReadCard : Claim7 := { stood := { row := fnTimeReadRow, standIns := [], harness := (true, "ac3484daf44d4cf986eeb9eb5a06ab3ec1d761592f96b82c5d20839df5919c8d"), looks := true }, kinds := [], alts := [], laidByText := true, laidKinds := [.data, .data, .data, .data, .sentinel, .sentinel, .pinned], laidTests := true, laidLooks := .later }
def FnTimeReadCardSaid : Prop := Claim7.holds Tryd.pinned (.plain (OpenSpec.ofChange fnTimeReadSpec)) fnTimeReadCard

/-- THE TIED CARD OF 'laws.FnExactParseLeg'. -/
def fnExactParseLegCard : Claim7 := { stood := { row := fnExactParseLegRow, standIns := [], harness := (true, "ac3484daf44d4cf986eeb9eb5a06ab3ec1d761592f96b82c5d20839df5919c8d"), looks := true }, kinds := [], alts := [], laidByText := true, laidKinds := [.data, .data, .data, .data, .sentinel, .sentinel, .pinned], laidTests := true, laidLooks := .later }
def FnExactParseLegCardSaid : Prop := Claim7.holds Tryd.pinned (.plain (OpenSpec.ofChange fnExactParseLegSpec)) fnExactParseLegCard

/-- THE SECOND FORM's CARD OF 'laws.FnExactFormatInt'. -/
def fnExactFormatIntUptoCard : Claim7 := { stood := { row := fnExactFormatIntUptoRow, standIns := [], harness := (true, "ac3484daf44d4cf986eeb9eb5a06ab3ec1d761592f96b82c5d20839df5919c8d"), looks := true }, kinds := [], alts := [], laidByText := true, laidKinds := [.data, .data, .data], laidTests := true, laidLooks := .later }
def FnExactFormatIntUptoCardSaid : Prop := Claim7.holds Tryd.pinned (.plain (OpenSpec.upto fnExactFormatIntSpec)) fnExactFormatIntUptoCard

/-- THE SECOND FORM's CARD OF 'laws.FnExactDigits'. -/
def fnExactDigitsUptoCard : Claim7 := { stood := { row := fnExactDigitsUptoRow, standIns := [], harness := (true, "ac3484daf44d4cf986eeb9eb5a06ab3ec1d761592f96b82c5d20839df5919c8d"), looks := true }, kinds := [], alts := [], laidByText := true, laidKinds := [.data, .data, .data], laidTests := true, laidLooks := .later }
def FnExactDigitsUptoCardSaid : Prop := Claim7.holds Tryd.pinned (.plain (OpenSpec.upto fnExactDigitsSpec)) fnExactDigitsUptoCard

/-- THE SECOND FORM's CARD OF 'laws.FnExactFormatTime'. -/
def fnExactFormatTimeUptoCard : Claim7 := { stood := { row := fnExactFormatTimeUptoRow, standIns := [], harness := (true, "ac3484daf44d4cf986eeb9eb5a06ab3ec1d761592f96b82c5d20839df5919c8d"), looks := true }, kinds := [], alts := [], laidByText := true, laidKinds := [.data, .data, .data], laidTests := true, laidLooks := .later }
def FnExactFormatTimeUptoCardSaid : Prop := Claim7.holds Tryd.pinned (.plain (OpenSpec.upto fnExactFormatTimeSpec)) fnExactFormatTimeUptoCard

/-- THE SECOND FORM's CARD OF 'laws.FnExactFormatLeg'. -/
def fnExactFormatLegUptoCard : Claim7 := { stood := { row := fnExactFormatLegUptoRow, standIns := [], harness := (true, "ac3484daf44d4cf986eeb9eb5a06ab3ec1d761592f96b82c5d20839df5919c8d"), looks := true }, kinds := [], alts := [], laidByText := true, laidKinds := [.data, .data, .data], laidTests := true, laidLooks := .later }
def FnExactFormatLegUptoCardSaid : Prop := Claim7.holds Tryd.pinned (.plain (OpenSpec.upto fnExactFormatLegSpec)) fnExactFormatLegUptoCard

/-- THE SECOND FORM's CARD OF 'laws.FnExactCheckOf'. -/
def fnExactCheckOfUptoCard : Claim7 := { stood := { row := fnExactCheckOfUptoRow, standIns := [], harness := (true, "ac3484daf44d4cf986eeb9eb5a06ab3ec1d761592f96b82c5d20839df5919c8d"), looks := true }, kinds := [], alts := [], laidByText := true, laidKinds := [.data, .data, .data], laidTests := true, laidLooks := .later }
def FnExactCheckOfUptoCardSaid : Prop := Claim7.holds Tryd.pinned (.plain (OpenSpec.upto fnExactCheckOfSpec)) fnExactCheckOfUptoCard

/-- THE SECOND FORM's CARD OF 'laws.FnExactFormatLabel'. -/
def fnExactFormatLabelUptoCard : Claim7 := { stood := { row := fnExactFormatLabelUptoRow, standIns := [], harness := (true, "ac3484daf44d4cf986eeb9eb5a06ab3ec1d761592f96b82c5d20839df5919c8d"), looks := true }, kinds := [], alts := [], laidByText := true, laidKinds := [.data, .data, .data], laidTests := true, laidLooks := .later }
def FnExactFormatLabelUptoCardSaid : Prop := Claim7.holds Tryd.pinned (.plain (OpenSpec.upto fnExactFormatLabelSpec)) fnExactFormatLabelUptoCard

/-- THE SECOND FORM's CARD OF 'laws.FnExactParseInt'. -/
def fnExactParseIntUptoCard : Claim7 := { stood := { row := fnExactParseIntUptoRow, standIns := [], harness := (true, "ac3484daf44d4cf986eeb9eb5a06ab3ec1d761592f96b82c5d20839df5919c8d"), looks := true }, kinds := [], alts := [], laidByText := true, laidKinds := [.data, .data, .data, .sentinel, .sentinel], laidTests := true, laidLooks := .later }
def FnExactParseIntUptoCardSaid : Prop := Claim7.holds Tryd.pinned (.plain (OpenSpec.upto fnExactParseIntSpec)) fnExactParseIntUptoCard

/-- THE SECOND FORM's CARD OF 'laws.FnRemainder'. -/
def fnRemainderUptoCard : Claim7 := { stood := { row := fnRemainderUptoRow, standIns := [], harness := (true, "ac3484daf44d4cf986eeb9eb5a06ab3ec1d761592f96b82c5d20839df5919c8d"), looks := true }, kinds := [], alts := [], laidByText := true, laidKinds := [.data, .data, .data, .sentinel, .sentinel], laidTests := true, laidLooks := .later }
def FnRemainderUptoCardSaid : Prop := Claim7.holds Tryd.pinned (.plain (OpenSpec.upto fnRemainderSpec)) fnRemainderUptoCard

/-- THE SECOND FORM's CARD OF 'laws.FnLabelRead'. -/
def fnLabelReadUptoCard : Claim7 := { stood := { row := fnLabelReadUptoRow, standIns := [], harness := (true, "ac3484daf44d4cf986eeb9eb5a06ab3ec1d761592f96b82c5d20839df5919c8d"), looks := true }, kinds := [], alts := [], laidByText := true, laidKinds := [.data, .data, .data, .sentinel, .sentinel], laidTests := true, laidLooks := .later }
def FnLabelReadUptoCardSaid : Prop := Claim7.holds Tryd.pinned (.plain (OpenSpec.upto fnLabelReadSpec)) fnLabelReadUptoCard

/-- THE SECOND FORM's CARD OF 'laws.FnExactParseLabel'. -/
def fnExactParseLabelUptoCard : Claim7 := { stood := { row := fnExactParseLabelUptoRow, standIns := [], harness := (true, "ac3484daf44d4cf986eeb9eb5a06ab3ec1d761592f96b82c5d20839df5919c8d"), looks := true }, kinds := [], alts := [], laidByText := true, laidKinds := [.data, .data, .data, .sentinel, .sentinel], laidTests := true, laidLooks := .later }
def FnExactParseLabelUptoCardSaid : Prop := Claim7.holds Tryd.pinned (.plain (OpenSpec.upto fnExactParseLabelSpec)) fnExactParseLabelUptoCard

/-- THE SECOND FORM's CARD OF 'laws.FnOneChange'. -/
def fnOneChangeUptoCard : Claim7 := { stood := { row := fnOneChangeUptoRow, standIns := [], harness := (true, "ac3484daf44d4cf986eeb9eb5a06ab3ec1d761592f96b82c5d20839df5919c8d"), looks := true }, kinds := [], alts := [], laidByText := true, laidKinds := [.data, .data, .data, .sentinel, .sentinel], laidTests := true, laidLooks := .later }
def FnOneChangeUptoCardSaid : Prop := Claim7.holds Tryd.pinned (.plain (OpenSpec.upto fnOneChangeSpec)) fnOneChangeUptoCard

/-- THE SECOND FORM's CARD OF 'laws.FnExactParseTime'. -/
def fnExactParseTimeUptoCard : Claim7 := { stood := { row := fnExactParseTimeUptoRow, standIns := [], harness := (true, "ac3484daf44d4cf986eeb9eb5a06ab3ec1d761592f96b82c5d20839df5919c8d"), looks := true }, kinds := [], alts := [], laidByText := true, laidKinds := [.data, .data, .data, .sentinel, .sentinel], laidTests := true, laidLooks := .later }
def FnExactParseTimeUptoCardSaid : Prop := Claim7.holds Tryd.pinned (.plain (OpenSpec.upto fnExactParseTimeSpec)) fnExactParseTimeUptoCard

/-- THE SECOND FORM's CARD OF 'laws.FnOneSwap'. -/
def fnOneSwapUptoCard : Claim7 := { stood := { row := fnOneSwapUptoRow, standIns := [], harness := (true, "ac3484daf44d4cf986eeb9eb5a06ab3ec1d761592f96b82c5d20839df5919c8d"), looks := true }, kinds := [], alts := [], laidByText := true, laidKinds := [.data, .data, .data, .sentinel, .sentinel], laidTests := true, laidLooks := .later }
def FnOneSwapUptoCardSaid : Prop := Claim7.holds Tryd.pinned (.plain (OpenSpec.upto fnOneSwapSpec)) fnOneSwapUptoCard

/-- THE SECOND FORM's CARD OF 'laws.FnExactAmended'. -/
def fnExactAmendedUptoCard : Claim7 := { stood := { row := fnExactAmendedUptoRow, standIns := [], harness := (true, "ac3484daf44d4cf986eeb9eb5a06ab3ec1d761592f96b82c5d20839df5919c8d"), looks := true }, kinds := [], alts := [], laidByText := true, laidKinds := [.data, .data, .data, .sentinel, .sentinel], laidTests := true, laidLooks := .later }
def FnExactAmendedUptoCardSaid : Prop := Claim7.holds Tryd.pinned (.plain (OpenSpec.upto fnExactAmendedSpec)) fnExactAmendedUptoCard

/-- THE SECOND FORM's CARD OF 'laws.FnAmended'. -/
def fnAmendedUptoCard : Claim7 := { stood := { row := fnAmendedUptoRow, standIns := [], harness := (true, "ac3484daf44d4cf986eeb9eb5a06ab3ec1d761592f96b82c5d20839df5919c8d"), looks := true }, kinds := [], alts := [], laidByText := true, laidKinds := [.data, .data, .data, .sentinel, .sentinel], laidTests := true, laidLooks := .later }
def FnAmendedUptoCardSaid : Prop := Claim7.holds Tryd.pinned (.plain (OpenSpec.upto fnAmendedSpec)) fnAmendedUptoCard

/-- THE SECOND FORM's CARD OF 'laws.FnTimeRead'. -/
def fnTimeReadUptoCard : Claim7 := { stood := { row := fnTimeReadUptoRow, standIns := [], harness := (true, "ac3484daf44d4cf986eeb9eb5a06ab3ec1d761592f96b82c5d20839df5919c8d"), looks := true }, kinds := [], alts := [], laidByText := true, laidKinds := [.data, .data, .data, .data, .sentinel, .sentinel, .pinned], laidTests := true, laidLooks := .later }
def FnTimeReadUptoCardSaid : Prop := Claim7.holds Tryd.pinned (.plain (OpenSpec.upto fnTimeReadSpec)) fnTimeReadUptoCard

/-- THE SECOND FORM's CARD OF 'laws.FnExactParseLeg'. -/
def fnExactParseLegUptoCard : Claim7 := { stood := { row := fnExactParseLegUptoRow, standIns := [], harness := (true, "ac3484daf44d4cf986eeb9eb5a06ab3ec1d761592f96b82c5d20839df5919c8d"), looks := true }, kinds := [], alts := [], laidByText := true, laidKinds := [.data, .data, .data, .data, .sentinel, .sentinel, .pinned], laidTests := true, laidLooks := .later }
def FnExactParseLegUptoCardSaid : Prop := Claim7.holds Tryd.pinned (.plain (OpenSpec.upto fnExactParseLegSpec)) fnExactParseLegUptoCard
end Rows
end Go.Proofs.YtpodbdmeamgpgaaDoor
