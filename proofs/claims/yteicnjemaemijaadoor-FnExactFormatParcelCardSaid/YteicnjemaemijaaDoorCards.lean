/-
  DERIVED. GIVEN WITH THE SEED: THE CARDS: each row of YteicnjemaemijaaDoorRows.lean that lists a variable, with what it lists TIED to the program's text (the seventh form; the later family's looks); each row that meets fmt, with fmt's text TOLD by the authors' own Lean function (tested against real Go, not proved from fmt's source: count such statements apart). THE CARD IS WHAT COUNTS. Prove the row's statement (the work); the ties are given (YteicnjemaemijaaDoorTie.lean); close each card by the builder's one call (the guide's Derived/Test/ToyasCard.lean, 'card_holds'). Laid BY PROGRAM, IN A SANDBOX (cutbox-door.mjs). By AI agents, Wed Nov 11 2026. No macro, syntax, notation, axiom, sorry.
-/
import Derived.Test.YteicnjemaemijaaDoorRows
import GoSem.ClaimSeven
namespace Go.Proofs.YteicnjemaemijaaDoor
namespace Rows

/-- THE TIED CARD OF 'laws.FnExactFormatParcel'. -/
def fnExactFormatParcelCard : Claim7 := { stood := { row := fnExactFormatParcelRow, standIns := [], harness := (true, "c81a1d8eb5539e9127620ad0e68de945be958bbe305f06b3c9a7f2b561974157"), looks := false }, kinds := [], alts := [], laidByText := true, laidKinds := [.data, .data, .data], laidTests := true, laidLooks := .later }
def FnExactFormatParcelCardSaid : Prop := Claim7.holds Tryd.pinned (.plain (OpenSpec.ofChange fnExactFormatParcelSpec)) fnExactFormatParcelCard

/-- THE SECOND FORM's CARD OF 'laws.FnExactFormatParcel'. -/
def fnExactFormatParcelUptoCard : Claim7 := { stood := { row := fnExactFormatParcelUptoRow, standIns := [], harness := (true, "c81a1d8eb5539e9127620ad0e68de945be958bbe305f06b3c9a7f2b561974157"), looks := false }, kinds := [], alts := [], laidByText := true, laidKinds := [.data, .data, .data], laidTests := true, laidLooks := .later }
def FnExactFormatParcelUptoCardSaid : Prop := Claim7.holds Tryd.pinned (.plain (OpenSpec.upto fnExactFormatParcelSpec)) fnExactFormatParcelUptoCard
end Rows
end Go.Proofs.YteicnjemaemijaaDoor
