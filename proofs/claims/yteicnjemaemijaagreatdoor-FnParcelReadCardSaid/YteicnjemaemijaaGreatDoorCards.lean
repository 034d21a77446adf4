/-
  DERIVED. GIVEN WITH THE SEED: THE CARDS: each row of YteicnjemaemijaaGreatDoorRows.lean that lists a variable, with what it lists TIED to the program's text (the seventh form; the later family's looks); each row that meets fmt, with fmt's text TOLD by the authors' own Lean function (tested against real Go, not proved from fmt's source: count such statements apart). THE CARD IS WHAT COUNTS. Prove the row's statement (the work); the ties are given (YteicnjemaemijaaGreatDoorTie.lean); close each card by the builder's one call (the guide's Derived/Test/ToyasCard.lean, 'card_holds'). Laid BY PROGRAM, IN A SANDBOX (cutbox-door.mjs). By AI agents, Wed Nov 11 2026. No macro, syntax, notation, axiom, sorry.
-/
import Derived.Test.YteicnjemaemijaaGreatDoorRows
import GoSem.ClaimSeven
namespace Go.Proofs.YteicnjemaemijaaGreatDoor
namespace Rows

/-- THE TIED CARD OF 'laws.FnExactParseParcel'. -/
def fnExactParseParcelCard : Claim7 := { stood := { row := fnExactParseParcelRow, standIns := [], harness := (true, "01ab5ae7f9680b05b8413c066a55f1cef2d3bf79f41f7af5421917f997af624d"), looks := true }, kinds := [], alts := [], laidByText := true, laidKinds := [.data, .data, .data, .data, .sentinel, .sentinel, .pinned], laidTests := true, laidLooks := .later }
def FnExactParseParcelCardSaid : Prop := Claim7.holds Tryz.pinned (.plain (OpenSpec.ofChange fnExactParseParcelSpec)) fnExactParseParcelCard

/-- THE TIED CARD OF 'laws.FnParcelRead'. -/
def fnParcelReadCard : Claim7 := { stood := { row := fnParcelReadRow, standIns := [], harness := (true, "01ab5ae7f9680b05b8413c066a55f1cef2d3bf79f41f7af5421917f997af624d"), looks := true }, kinds := [], alts := [], laidByText := true, laidKinds := [.data, .data, .data, .data, .sentinel, .sentinel, .pinned], laidTests := true, laidLooks := .later }
def FnParcelReadCardSaid : Prop := Claim7.holds Tryz.pinned (.plain (OpenSpec.ofChange fnParcelReadSpec)) fnParcelReadCard

/-- THE SECOND FORM's CARD OF 'laws.FnExactParseParcel'. -/
def fnExactParseParcelUptoCard : Claim7 := { stood := { row := fnExactParseParcelUptoRow, standIns := [], harness := (true, "01ab5ae7f9680b05b8413c066a55f1cef2d3bf79f41f7af5421917f997af624d"), looks := true }, kinds := [], alts := [], laidByText := true, laidKinds := [.data, .data, .data, .data, .sentinel, .sentinel, .pinned], laidTests := true, laidLooks := .later }
def FnExactParseParcelUptoCardSaid : Prop := Claim7.holds Tryz.pinned (.plain (OpenSpec.upto fnExactParseParcelSpec)) fnExactParseParcelUptoCard

/-- THE SECOND FORM's CARD OF 'laws.FnParcelRead'. -/
def fnParcelReadUptoCard : Claim7 := { stood := { row := fnParcelReadUptoRow, standIns := [], harness := (true, "01ab5ae7f9680b05b8413c066a55f1cef2d3bf79f41f7af5421917f997af624d"), looks := true }, kinds := [], alts := [], laidByText := true, laidKinds := [.data, .data, .data, .data, .sentinel, .sentinel, .pinned], laidTests := true, laidLooks := .later }
def FnParcelReadUptoCardSaid : Prop := Claim7.holds Tryz.pinned (.plain (OpenSpec.upto fnParcelReadSpec)) fnParcelReadUptoCard
end Rows
end Go.Proofs.YteicnjemaemijaaGreatDoor
