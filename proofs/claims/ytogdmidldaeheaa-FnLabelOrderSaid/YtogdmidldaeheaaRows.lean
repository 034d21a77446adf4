/-
  No cell of these rows narrows 'for every input' (looked for: loops, veiled, ifaces, maps, wideKeys, modest, calm, conditions, laid).
  DERIVED. THE GIVEN ROWS OF THIS SEAT. 22 by the template 'for every input the law returns true; each argument reads behind the call as it read before'; 0 by the template 'total and deterministic' (their statements: YtogdmidldaeheaaTotals.lean).
  GIVEN WITH THE SEED: the statements are not yours to turn. If you find one false, say at which input.
  Laid BY PROGRAM, IN A SANDBOX (cutbox-rows.mjs): the forced cells as the released guide's own fill.sh prints them over the translation d2b42af98d2f3eb7… (all of the seat's roots in one cut). By AI agents, Wed Nov 11 2026. No macro, syntax, notation, axiom, sorry.
-/
import Derived.Test.YtogdmidldaeheaaChecked
import GoSem.Claim
import GoSem.ClaimJoined
import GoSem.ClaimMapViews
import Derived.JoinedTies
import Derived.KernelRfl
namespace Go.Proofs.Ytogdmidldaeheaa
/- THE CELL 'sum', in the pinned program and in every row, IS THE sha256 OF THE DUMP (.gsa) THAT YtogdmidldaeheaaProg.lean LOADS. Nothing in Lean hashes anything: it is a label: what it is worth is what the hold of that sum in a sandbox is worth. -/
noncomputable def Try.pinned : Pinned := { name := "ytogdmidldaeheaa", sum := "d2b42af98d2f3eb7759566f9d6362be886d136752485d62fc53a02647016e2a1", checked := Try.checked }
namespace Rows
def none {H : Type} : Left H := { results := [], args := [] }

/-- 'laws.FnExactConstants': WHATEVER THE INPUT: true; the input reads as it did. -/
def fnExactConstantsSpec : ChangeSpec := { name := "fnExactConstants", fn := fun _ => fun
  | [] => { results := [.lit (.bool true)], args := [] }
  | _ => none }
def fnExactConstantsRow : OpenClaim := { program := "ytogdmidldaeheaa", sum := "d2b42af98d2f3eb7759566f9d6362be886d136752485d62fc53a02647016e2a1", func := "loop.example/g03014/laws.FnExactConstants", spec := "fnExactConstants", apart := false }
def FnExactConstantsSaid : Prop := fnExactConstantsRow.holds Try.pinned (OpenSpec.ofChange fnExactConstantsSpec)

/-- ITS FALSE NEIGHBOUR: 'it returns false'. Refute it at one input. -/
def fnExactConstantsWrong : ChangeSpec := { name := "fnExactConstants", fn := fun _ => fun
  | [] => { results := [.lit (.bool false)], args := [] }
  | _ => none }
def FnExactConstantsWrongFalsely : Prop := fnExactConstantsRow.holds Try.pinned (OpenSpec.ofChange fnExactConstantsWrong)

/-- 'laws.FnExactSwapAt': WHATEVER THE INPUT: true; the input reads as it did. -/
def fnExactSwapAtSpec : ChangeSpec := { name := "fnExactSwapAt", fn := fun _ => fun
  | [d1, d2] => { results := [.lit (.bool true)], args := [d1, d2] }
  | _ => none }
def fnExactSwapAtRow : OpenClaim := { program := "ytogdmidldaeheaa", sum := "d2b42af98d2f3eb7759566f9d6362be886d136752485d62fc53a02647016e2a1", func := "loop.example/g03014/laws.FnExactSwapAt", spec := "fnExactSwapAt", apart := false }
def FnExactSwapAtSaid : Prop := fnExactSwapAtRow.holds Try.pinned (OpenSpec.ofChange fnExactSwapAtSpec)

/-- ITS FALSE NEIGHBOUR: 'it returns false'. Refute it at one input. -/
def fnExactSwapAtWrong : ChangeSpec := { name := "fnExactSwapAt", fn := fun _ => fun
  | [d1, d2] => { results := [.lit (.bool false)], args := [d1, d2] }
  | _ => none }
def FnExactSwapAtWrongFalsely : Prop := fnExactSwapAtRow.holds Try.pinned (OpenSpec.ofChange fnExactSwapAtWrong)

/-- 'laws.FnExactIsPlace': WHATEVER THE INPUT: true; the input reads as it did. -/
def fnExactIsPlaceSpec : ChangeSpec := { name := "fnExactIsPlace", fn := fun _ => fun
  | [d] => { results := [.lit (.bool true)], args := [d] }
  | _ => none }
def fnExactIsPlaceRow : OpenClaim := { program := "ytogdmidldaeheaa", sum := "d2b42af98d2f3eb7759566f9d6362be886d136752485d62fc53a02647016e2a1", func := "loop.example/g03014/laws.FnExactIsPlace", spec := "fnExactIsPlace", apart := false }
def FnExactIsPlaceSaid : Prop := fnExactIsPlaceRow.holds Try.pinned (OpenSpec.ofChange fnExactIsPlaceSpec)

/-- ITS FALSE NEIGHBOUR: 'it returns false'. Refute it at one input. -/
def fnExactIsPlaceWrong : ChangeSpec := { name := "fnExactIsPlace", fn := fun _ => fun
  | [d] => { results := [.lit (.bool false)], args := [d] }
  | _ => none }
def FnExactIsPlaceWrongFalsely : Prop := fnExactIsPlaceRow.holds Try.pinned (OpenSpec.ofChange fnExactIsPlaceWrong)

/-- 'laws.FnExactMod97': WHATEVER THE INPUT: true; the input reads as it did. -/
def fnExactMod97Spec : ChangeSpec := { name := "fnExactMod97", fn := fun _ => fun
  | [d] => { results := [.lit (.bool true)], args := [d] }
  | _ => none }
def fnExactMod97Row : OpenClaim := { program := "ytogdmidldaeheaa", sum := "d2b42af98d2f3eb7759566f9d6362be886d136752485d62fc53a02647016e2a1", func := "loop.example/g03014/laws.FnExactMod97", spec := "fnExactMod97", apart := false }
def FnExactMod97Said : Prop := fnExactMod97Row.holds Try.pinned (OpenSpec.ofChange fnExactMod97Spec)

/-- ITS FALSE NEIGHBOUR: 'it returns false'. Refute it at one input. -/
def fnExactMod97Wrong : ChangeSpec := { name := "fnExactMod97", fn := fun _ => fun
  | [d] => { results := [.lit (.bool false)], args := [d] }
  | _ => none }
def FnExactMod97WrongFalsely : Prop := fnExactMod97Row.holds Try.pinned (OpenSpec.ofChange fnExactMod97Wrong)

/-- 'laws.FnExactIsLabel': WHATEVER THE INPUT: true; the input reads as it did. -/
def fnExactIsLabelSpec : ChangeSpec := { name := "fnExactIsLabel", fn := fun _ => fun
  | [d] => { results := [.lit (.bool true)], args := [d] }
  | _ => none }
def fnExactIsLabelRow : OpenClaim := { program := "ytogdmidldaeheaa", sum := "d2b42af98d2f3eb7759566f9d6362be886d136752485d62fc53a02647016e2a1", func := "loop.example/g03014/laws.FnExactIsLabel", spec := "fnExactIsLabel", apart := false }
def FnExactIsLabelSaid : Prop := fnExactIsLabelRow.holds Try.pinned (OpenSpec.ofChange fnExactIsLabelSpec)

/-- ITS FALSE NEIGHBOUR: 'it returns false'. Refute it at one input. -/
def fnExactIsLabelWrong : ChangeSpec := { name := "fnExactIsLabel", fn := fun _ => fun
  | [d] => { results := [.lit (.bool false)], args := [d] }
  | _ => none }
def FnExactIsLabelWrongFalsely : Prop := fnExactIsLabelRow.holds Try.pinned (OpenSpec.ofChange fnExactIsLabelWrong)

/-- 'laws.FnExactIsLeg': WHATEVER THE INPUT: true; the input reads as it did. -/
def fnExactIsLegSpec : ChangeSpec := { name := "fnExactIsLeg", fn := fun _ => fun
  | [d] => { results := [.lit (.bool true)], args := [d] }
  | _ => none }
def fnExactIsLegRow : OpenClaim := { program := "ytogdmidldaeheaa", sum := "d2b42af98d2f3eb7759566f9d6362be886d136752485d62fc53a02647016e2a1", func := "loop.example/g03014/laws.FnExactIsLeg", spec := "fnExactIsLeg", apart := false }
def FnExactIsLegSaid : Prop := fnExactIsLegRow.holds Try.pinned (OpenSpec.ofChange fnExactIsLegSpec)

/-- ITS FALSE NEIGHBOUR: 'it returns false'. Refute it at one input. -/
def fnExactIsLegWrong : ChangeSpec := { name := "fnExactIsLeg", fn := fun _ => fun
  | [d] => { results := [.lit (.bool false)], args := [d] }
  | _ => none }
def FnExactIsLegWrongFalsely : Prop := fnExactIsLegRow.holds Try.pinned (OpenSpec.ofChange fnExactIsLegWrong)

/-- 'laws.FnExactVolumeOf': WHATEVER THE INPUT: true; the input reads as it did. -/
def fnExactVolumeOfSpec : ChangeSpec := { name := "fnExactVolumeOf", fn := fun _ => fun
  | [d] => { results := [.lit (.bool true)], args := [d] }
  | _ => none }
def fnExactVolumeOfRow : OpenClaim := { program := "ytogdmidldaeheaa", sum := "d2b42af98d2f3eb7759566f9d6362be886d136752485d62fc53a02647016e2a1", func := "loop.example/g03014/laws.FnExactVolumeOf", spec := "fnExactVolumeOf", apart := false }
def FnExactVolumeOfSaid : Prop := fnExactVolumeOfRow.holds Try.pinned (OpenSpec.ofChange fnExactVolumeOfSpec)

/-- ITS FALSE NEIGHBOUR: 'it returns false'. Refute it at one input. -/
def fnExactVolumeOfWrong : ChangeSpec := { name := "fnExactVolumeOf", fn := fun _ => fun
  | [d] => { results := [.lit (.bool false)], args := [d] }
  | _ => none }
def FnExactVolumeOfWrongFalsely : Prop := fnExactVolumeOfRow.holds Try.pinned (OpenSpec.ofChange fnExactVolumeOfWrong)

/-- 'laws.FnExactCompareLabels': WHATEVER THE INPUT: true; the input reads as it did. -/
def fnExactCompareLabelsSpec : ChangeSpec := { name := "fnExactCompareLabels", fn := fun _ => fun
  | [d1, d2] => { results := [.lit (.bool true)], args := [d1, d2] }
  | _ => none }
def fnExactCompareLabelsRow : OpenClaim := { program := "ytogdmidldaeheaa", sum := "d2b42af98d2f3eb7759566f9d6362be886d136752485d62fc53a02647016e2a1", func := "loop.example/g03014/laws.FnExactCompareLabels", spec := "fnExactCompareLabels", inPlace := ["internal/bytealg.abigen_runtime_cmpstring"], apart := false }
def FnExactCompareLabelsSaid : Prop := fnExactCompareLabelsRow.holds Try.pinned (OpenSpec.ofChange fnExactCompareLabelsSpec)

/-- ITS FALSE NEIGHBOUR: 'it returns false'. Refute it at one input. -/
def fnExactCompareLabelsWrong : ChangeSpec := { name := "fnExactCompareLabels", fn := fun _ => fun
  | [d1, d2] => { results := [.lit (.bool false)], args := [d1, d2] }
  | _ => none }
def FnExactCompareLabelsWrongFalsely : Prop := fnExactCompareLabelsRow.holds Try.pinned (OpenSpec.ofChange fnExactCompareLabelsWrong)

/-- 'laws.FnZone': WHATEVER THE INPUT: true; the input reads as it did. -/
def fnZoneSpec : ChangeSpec := { name := "fnZone", fn := fun _ => fun
  | [d] => { results := [.lit (.bool true)], args := [d] }
  | _ => none }
def fnZoneRow : OpenClaim := { program := "ytogdmidldaeheaa", sum := "d2b42af98d2f3eb7759566f9d6362be886d136752485d62fc53a02647016e2a1", func := "loop.example/g03014/laws.FnZone", spec := "fnZone", apart := false }
def FnZoneSaid : Prop := fnZoneRow.holds Try.pinned (OpenSpec.ofChange fnZoneSpec)

/-- ITS FALSE NEIGHBOUR: 'it returns false'. Refute it at one input. -/
def fnZoneWrong : ChangeSpec := { name := "fnZone", fn := fun _ => fun
  | [d] => { results := [.lit (.bool false)], args := [d] }
  | _ => none }
def FnZoneWrongFalsely : Prop := fnZoneRow.holds Try.pinned (OpenSpec.ofChange fnZoneWrong)

/-- 'laws.FnExactAreZones': WHATEVER THE INPUT: true; the input reads as it did. -/
def fnExactAreZonesSpec : ChangeSpec := { name := "fnExactAreZones", fn := fun _ => fun
  | [d] => { results := [.lit (.bool true)], args := [d] }
  | _ => none }
def fnExactAreZonesRow : OpenClaim := { program := "ytogdmidldaeheaa", sum := "d2b42af98d2f3eb7759566f9d6362be886d136752485d62fc53a02647016e2a1", func := "loop.example/g03014/laws.FnExactAreZones", spec := "fnExactAreZones", apart := false }
def FnExactAreZonesSaid : Prop := fnExactAreZonesRow.holds Try.pinned (OpenSpec.ofChange fnExactAreZonesSpec)

/-- ITS FALSE NEIGHBOUR: 'it returns false'. Refute it at one input. -/
def fnExactAreZonesWrong : ChangeSpec := { name := "fnExactAreZones", fn := fun _ => fun
  | [d] => { results := [.lit (.bool false)], args := [d] }
  | _ => none }
def FnExactAreZonesWrongFalsely : Prop := fnExactAreZonesRow.holds Try.pinned (OpenSpec.ofChange fnExactAreZonesWrong)

/-- 'laws.FnExactAreRates': WHATEVER THE INPUT: true; the input reads as it did. -/
def fnExactAreRatesSpec : ChangeSpec := { name := "fnExactAreRates", fn := fun _ => fun
  | [d1, d2] => { results := [.lit (.bool true)], args := [d1, d2] }
  | _ => none }
def fnExactAreRatesRow : OpenClaim := { program := "ytogdmidldaeheaa", sum := "d2b42af98d2f3eb7759566f9d6362be886d136752485d62fc53a02647016e2a1", func := "loop.example/g03014/laws.FnExactAreRates", spec := "fnExactAreRates", apart := false }
def FnExactAreRatesSaid : Prop := fnExactAreRatesRow.holds Try.pinned (OpenSpec.ofChange fnExactAreRatesSpec)

/-- ITS FALSE NEIGHBOUR: 'it returns false'. Refute it at one input. -/
def fnExactAreRatesWrong : ChangeSpec := { name := "fnExactAreRates", fn := fun _ => fun
  | [d1, d2] => { results := [.lit (.bool false)], args := [d1, d2] }
  | _ => none }
def FnExactAreRatesWrongFalsely : Prop := fnExactAreRatesRow.holds Try.pinned (OpenSpec.ofChange fnExactAreRatesWrong)

/-- 'laws.FnLabelOrder': WHATEVER THE INPUT: true; the input reads as it did. -/
def fnLabelOrderSpec : ChangeSpec := { name := "fnLabelOrder", fn := fun _ => fun
  | [d] => { results := [.lit (.bool true)], args := [d] }
  | _ => none }
def fnLabelOrderRow : OpenClaim := { program := "ytogdmidldaeheaa", sum := "d2b42af98d2f3eb7759566f9d6362be886d136752485d62fc53a02647016e2a1", func := "loop.example/g03014/laws.FnLabelOrder", spec := "fnLabelOrder", inPlace := ["internal/bytealg.abigen_runtime_cmpstring"], apart := false }
def FnLabelOrderSaid : Prop := fnLabelOrderRow.holds Try.pinned (OpenSpec.ofChange fnLabelOrderSpec)

/-- ITS FALSE NEIGHBOUR: 'it returns false'. Refute it at one input. -/
def fnLabelOrderWrong : ChangeSpec := { name := "fnLabelOrder", fn := fun _ => fun
  | [d] => { results := [.lit (.bool false)], args := [d] }
  | _ => none }
def FnLabelOrderWrongFalsely : Prop := fnLabelOrderRow.holds Try.pinned (OpenSpec.ofChange fnLabelOrderWrong)

/-- 'laws.FnExactZoneOf': WHATEVER THE INPUT: true; the input reads as it did. -/
def fnExactZoneOfSpec : ChangeSpec := { name := "fnExactZoneOf", fn := fun _ => fun
  | [d1, d2] => { results := [.lit (.bool true)], args := [d1, d2] }
  | _ => none }
def fnExactZoneOfRow : OpenClaim := { program := "ytogdmidldaeheaa", sum := "d2b42af98d2f3eb7759566f9d6362be886d136752485d62fc53a02647016e2a1", func := "loop.example/g03014/laws.FnExactZoneOf", spec := "fnExactZoneOf", apart := false }
def FnExactZoneOfSaid : Prop := fnExactZoneOfRow.holds Try.pinned (OpenSpec.ofChange fnExactZoneOfSpec)

/-- ITS FALSE NEIGHBOUR: 'it returns false'. Refute it at one input. -/
def fnExactZoneOfWrong : ChangeSpec := { name := "fnExactZoneOf", fn := fun _ => fun
  | [d1, d2] => { results := [.lit (.bool false)], args := [d1, d2] }
  | _ => none }
def FnExactZoneOfWrongFalsely : Prop := fnExactZoneOfRow.holds Try.pinned (OpenSpec.ofChange fnExactZoneOfWrong)

/-- 'laws.FnExactIsNetwork': WHATEVER THE INPUT: true; the input reads as it did. -/
def fnExactIsNetworkSpec : ChangeSpec := { name := "fnExactIsNetwork", fn := fun _ => fun
  | [d] => { results := [.lit (.bool true)], args := [d] }
  | _ => none }
def fnExactIsNetworkRow : OpenClaim := { program := "ytogdmidldaeheaa", sum := "d2b42af98d2f3eb7759566f9d6362be886d136752485d62fc53a02647016e2a1", func := "loop.example/g03014/laws.FnExactIsNetwork", spec := "fnExactIsNetwork", apart := false }
def FnExactIsNetworkSaid : Prop := fnExactIsNetworkRow.holds Try.pinned (OpenSpec.ofChange fnExactIsNetworkSpec)

/-- ITS FALSE NEIGHBOUR: 'it returns false'. Refute it at one input. -/
def fnExactIsNetworkWrong : ChangeSpec := { name := "fnExactIsNetwork", fn := fun _ => fun
  | [d] => { results := [.lit (.bool false)], args := [d] }
  | _ => none }
def FnExactIsNetworkWrongFalsely : Prop := fnExactIsNetworkRow.holds Try.pinned (OpenSpec.ofChange fnExactIsNetworkWrong)

/-- 'laws.FnExactRunsOn': WHATEVER THE INPUT: true; the input reads as it did. -/
def fnExactRunsOnSpec : ChangeSpec := { name := "fnExactRunsOn", fn := fun _ => fun
  | [d1, d2, d3] => { results := [.lit (.bool true)], args := [d1, d2, d3] }
  | _ => none }
def fnExactRunsOnRow : OpenClaim := { program := "ytogdmidldaeheaa", sum := "d2b42af98d2f3eb7759566f9d6362be886d136752485d62fc53a02647016e2a1", func := "loop.example/g03014/laws.FnExactRunsOn", spec := "fnExactRunsOn", apart := false }
def FnExactRunsOnSaid : Prop := fnExactRunsOnRow.holds Try.pinned (OpenSpec.ofChange fnExactRunsOnSpec)

/-- ITS FALSE NEIGHBOUR: 'it returns false'. Refute it at one input. -/
def fnExactRunsOnWrong : ChangeSpec := { name := "fnExactRunsOn", fn := fun _ => fun
  | [d1, d2, d3] => { results := [.lit (.bool false)], args := [d1, d2, d3] }
  | _ => none }
def FnExactRunsOnWrongFalsely : Prop := fnExactRunsOnRow.holds Try.pinned (OpenSpec.ofChange fnExactRunsOnWrong)

/-- 'laws.FnExactIsTrip': WHATEVER THE INPUT: true; the input reads as it did. -/
def fnExactIsTripSpec : ChangeSpec := { name := "fnExactIsTrip", fn := fun _ => fun
  | [d1, d2] => { results := [.lit (.bool true)], args := [d1, d2] }
  | _ => none }
def fnExactIsTripRow : OpenClaim := { program := "ytogdmidldaeheaa", sum := "d2b42af98d2f3eb7759566f9d6362be886d136752485d62fc53a02647016e2a1", func := "loop.example/g03014/laws.FnExactIsTrip", spec := "fnExactIsTrip", apart := false }
def FnExactIsTripSaid : Prop := fnExactIsTripRow.holds Try.pinned (OpenSpec.ofChange fnExactIsTripSpec)

/-- ITS FALSE NEIGHBOUR: 'it returns false'. Refute it at one input. -/
def fnExactIsTripWrong : ChangeSpec := { name := "fnExactIsTrip", fn := fun _ => fun
  | [d1, d2] => { results := [.lit (.bool false)], args := [d1, d2] }
  | _ => none }
def FnExactIsTripWrongFalsely : Prop := fnExactIsTripRow.holds Try.pinned (OpenSpec.ofChange fnExactIsTripWrong)

/-- 'laws.FnExactStartsAt': WHATEVER THE INPUT: true; the input reads as it did. -/
def fnExactStartsAtSpec : ChangeSpec := { name := "fnExactStartsAt", fn := fun _ => fun
  | [d1, d2] => { results := [.lit (.bool true)], args := [d1, d2] }
  | _ => none }
def fnExactStartsAtRow : OpenClaim := { program := "ytogdmidldaeheaa", sum := "d2b42af98d2f3eb7759566f9d6362be886d136752485d62fc53a02647016e2a1", func := "loop.example/g03014/laws.FnExactStartsAt", spec := "fnExactStartsAt", apart := false }
def FnExactStartsAtSaid : Prop := fnExactStartsAtRow.holds Try.pinned (OpenSpec.ofChange fnExactStartsAtSpec)

/-- ITS FALSE NEIGHBOUR: 'it returns false'. Refute it at one input. -/
def fnExactStartsAtWrong : ChangeSpec := { name := "fnExactStartsAt", fn := fun _ => fun
  | [d1, d2] => { results := [.lit (.bool false)], args := [d1, d2] }
  | _ => none }
def FnExactStartsAtWrongFalsely : Prop := fnExactStartsAtRow.holds Try.pinned (OpenSpec.ofChange fnExactStartsAtWrong)

/-- 'laws.FnExactEndsAt': WHATEVER THE INPUT: true; the input reads as it did. -/
def fnExactEndsAtSpec : ChangeSpec := { name := "fnExactEndsAt", fn := fun _ => fun
  | [d1, d2] => { results := [.lit (.bool true)], args := [d1, d2] }
  | _ => none }
def fnExactEndsAtRow : OpenClaim := { program := "ytogdmidldaeheaa", sum := "d2b42af98d2f3eb7759566f9d6362be886d136752485d62fc53a02647016e2a1", func := "loop.example/g03014/laws.FnExactEndsAt", spec := "fnExactEndsAt", apart := false }
def FnExactEndsAtSaid : Prop := fnExactEndsAtRow.holds Try.pinned (OpenSpec.ofChange fnExactEndsAtSpec)

/-- ITS FALSE NEIGHBOUR: 'it returns false'. Refute it at one input. -/
def fnExactEndsAtWrong : ChangeSpec := { name := "fnExactEndsAt", fn := fun _ => fun
  | [d1, d2] => { results := [.lit (.bool false)], args := [d1, d2] }
  | _ => none }
def FnExactEndsAtWrongFalsely : Prop := fnExactEndsAtRow.holds Try.pinned (OpenSpec.ofChange fnExactEndsAtWrong)

/-- 'laws.FnLast': WHATEVER THE INPUT: true; the input reads as it did. -/
def fnLastSpec : ChangeSpec := { name := "fnLast", fn := fun _ => fun
  | [d] => { results := [.lit (.bool true)], args := [d] }
  | _ => none }
def fnLastRow : OpenClaim := { program := "ytogdmidldaeheaa", sum := "d2b42af98d2f3eb7759566f9d6362be886d136752485d62fc53a02647016e2a1", func := "loop.example/g03014/laws.FnLast", spec := "fnLast", apart := false }
def FnLastSaid : Prop := fnLastRow.holds Try.pinned (OpenSpec.ofChange fnLastSpec)

/-- ITS FALSE NEIGHBOUR: 'it returns false'. Refute it at one input. -/
def fnLastWrong : ChangeSpec := { name := "fnLast", fn := fun _ => fun
  | [d] => { results := [.lit (.bool false)], args := [d] }
  | _ => none }
def FnLastWrongFalsely : Prop := fnLastRow.holds Try.pinned (OpenSpec.ofChange fnLastWrong)

/-- 'laws.FnNext': WHATEVER THE INPUT: true; the input reads as it did. -/
def fnNextSpec : ChangeSpec := { name := "fnNext", fn := fun _ => fun
  | [d] => { results := [.lit (.bool true)], args := [d] }
  | _ => none }
def fnNextRow : OpenClaim := { program := "ytogdmidldaeheaa", sum := "d2b42af98d2f3eb7759566f9d6362be886d136752485d62fc53a02647016e2a1", func := "loop.example/g03014/laws.FnNext", spec := "fnNext", apart := false }
def FnNextSaid : Prop := fnNextRow.holds Try.pinned (OpenSpec.ofChange fnNextSpec)

/-- ITS FALSE NEIGHBOUR: 'it returns false'. Refute it at one input. -/
def fnNextWrong : ChangeSpec := { name := "fnNext", fn := fun _ => fun
  | [d] => { results := [.lit (.bool false)], args := [d] }
  | _ => none }
def FnNextWrongFalsely : Prop := fnNextRow.holds Try.pinned (OpenSpec.ofChange fnNextWrong)

/-- 'laws.FnExactLastTrip': WHATEVER THE INPUT: true; the input reads as it did. -/
def fnExactLastTripSpec : ChangeSpec := { name := "fnExactLastTrip", fn := fun _ => fun
  | [d1, d2, d3] => { results := [.lit (.bool true)], args := [d1, d2, d3] }
  | _ => none }
def fnExactLastTripRow : OpenClaim := { program := "ytogdmidldaeheaa", sum := "d2b42af98d2f3eb7759566f9d6362be886d136752485d62fc53a02647016e2a1", func := "loop.example/g03014/laws.FnExactLastTrip", spec := "fnExactLastTrip", apart := false }
def FnExactLastTripSaid : Prop := fnExactLastTripRow.holds Try.pinned (OpenSpec.ofChange fnExactLastTripSpec)

/-- ITS FALSE NEIGHBOUR: 'it returns false'. Refute it at one input. -/
def fnExactLastTripWrong : ChangeSpec := { name := "fnExactLastTrip", fn := fun _ => fun
  | [d1, d2, d3] => { results := [.lit (.bool false)], args := [d1, d2, d3] }
  | _ => none }
def FnExactLastTripWrongFalsely : Prop := fnExactLastTripRow.holds Try.pinned (OpenSpec.ofChange fnExactLastTripWrong)

/-- 'laws.FnExactNextTrip': WHATEVER THE INPUT: true; the input reads as it did. -/
def fnExactNextTripSpec : ChangeSpec := { name := "fnExactNextTrip", fn := fun _ => fun
  | [d1, d2, d3] => { results := [.lit (.bool true)], args := [d1, d2, d3] }
  | _ => none }
def fnExactNextTripRow : OpenClaim := { program := "ytogdmidldaeheaa", sum := "d2b42af98d2f3eb7759566f9d6362be886d136752485d62fc53a02647016e2a1", func := "loop.example/g03014/laws.FnExactNextTrip", spec := "fnExactNextTrip", apart := false }
def FnExactNextTripSaid : Prop := fnExactNextTripRow.holds Try.pinned (OpenSpec.ofChange fnExactNextTripSpec)

/-- ITS FALSE NEIGHBOUR: 'it returns false'. Refute it at one input. -/
def fnExactNextTripWrong : ChangeSpec := { name := "fnExactNextTrip", fn := fun _ => fun
  | [d1, d2, d3] => { results := [.lit (.bool false)], args := [d1, d2, d3] }
  | _ => none }
def FnExactNextTripWrongFalsely : Prop := fnExactNextTripRow.holds Try.pinned (OpenSpec.ofChange fnExactNextTripWrong)

/- THE SECOND FORM. 'bulk': how many values and letters a reading holds, each counted each time it is reached (what is shared counts as often as it is met; a slice's spare places count too). A statement '..UptoSaid' is the law's where the arguments, and the package variables that the reading takes, are together of bulk at most 1048576: NARROWER than '..Said'. Prove '..Said' where nothing that the law and all that it calls make is longer than what came in: it says more and counts as full. Else prove '..UptoSaid'. A law counts once. -/
mutual
def uptoBulk {H : Type} : DataW H → Nat
  | .lit (.string bytes) => bytes.length + 1
  | .lit _ => 1
  | .nil => 1
  | .ptr d => uptoBulk d + 1
  | .slice elems spare => uptoBulkAll elems + uptoBulkAll spare + 1
  | .agg parts => uptoBulkAll parts + 1
  | .iface _ d => uptoBulk d + 1
  | .map entries => uptoBulkEntries entries + 1
  | .held _ => 1
def uptoBulkAll {H : Type} : List (DataW H) → Nat
  | [] => 0
  | d :: r => uptoBulk d + uptoBulkAll r
def uptoBulkEntries {H : Type} : List (Lit × DataW H) → Nat
  | [] => 0
  | x :: r => uptoBulkEntry x + uptoBulkEntries r
def uptoBulkEntry {H : Type} : Lit × DataW H → Nat
  | (.string bytes, d) => bytes.length + uptoBulk d + 1
  | (_, d) => uptoBulk d + 1
 end
def uptoSmall : (H : Type) → List (DataW H) → Bool := fun _ ds => decide (uptoBulkAll ds ≤ 1048576)
def OpenSpec.upto (s : _root_.Go.ChangeSpec) : _root_.Go.OpenSpec := { _root_.Go.OpenSpec.ofChange s with cond := some uptoSmall }

/-- 'laws.FnExactConstants', WHERE WHAT IT READS IS OF BULK AT MOST 1048576: true; the input reads as it did. -/
def fnExactConstantsUptoRow : OpenClaim := { program := "ytogdmidldaeheaa", sum := "d2b42af98d2f3eb7759566f9d6362be886d136752485d62fc53a02647016e2a1", func := "loop.example/g03014/laws.FnExactConstants", spec := "fnExactConstants", apart := false, narrowed := true }
def FnExactConstantsUptoSaid : Prop := fnExactConstantsUptoRow.holds Try.pinned (OpenSpec.upto fnExactConstantsSpec)

/-- 'laws.FnExactSwapAt', WHERE WHAT IT READS IS OF BULK AT MOST 1048576: true; the input reads as it did. -/
def fnExactSwapAtUptoRow : OpenClaim := { program := "ytogdmidldaeheaa", sum := "d2b42af98d2f3eb7759566f9d6362be886d136752485d62fc53a02647016e2a1", func := "loop.example/g03014/laws.FnExactSwapAt", spec := "fnExactSwapAt", apart := false, narrowed := true }
def FnExactSwapAtUptoSaid : Prop := fnExactSwapAtUptoRow.holds Try.pinned (OpenSpec.upto fnExactSwapAtSpec)

/-- 'laws.FnExactIsPlace', WHERE WHAT IT READS IS OF BULK AT MOST 1048576: true; the input reads as it did. -/
def fnExactIsPlaceUptoRow : OpenClaim := { program := "ytogdmidldaeheaa", sum := "d2b42af98d2f3eb7759566f9d6362be886d136752485d62fc53a02647016e2a1", func := "loop.example/g03014/laws.FnExactIsPlace", spec := "fnExactIsPlace", apart := false, narrowed := true }
def FnExactIsPlaceUptoSaid : Prop := fnExactIsPlaceUptoRow.holds Try.pinned (OpenSpec.upto fnExactIsPlaceSpec)

/-- 'laws.FnExactMod97', WHERE WHAT IT READS IS OF BULK AT MOST 1048576: true; the input reads as it did. -/
def fnExactMod97UptoRow : OpenClaim := { program := "ytogdmidldaeheaa", sum := "d2b42af98d2f3eb7759566f9d6362be886d136752485d62fc53a02647016e2a1", func := "loop.example/g03014/laws.FnExactMod97", spec := "fnExactMod97", apart := false, narrowed := true }
def FnExactMod97UptoSaid : Prop := fnExactMod97UptoRow.holds Try.pinned (OpenSpec.upto fnExactMod97Spec)

/-- 'laws.FnExactIsLabel', WHERE WHAT IT READS IS OF BULK AT MOST 1048576: true; the input reads as it did. -/
def fnExactIsLabelUptoRow : OpenClaim := { program := "ytogdmidldaeheaa", sum := "d2b42af98d2f3eb7759566f9d6362be886d136752485d62fc53a02647016e2a1", func := "loop.example/g03014/laws.FnExactIsLabel", spec := "fnExactIsLabel", apart := false, narrowed := true }
def FnExactIsLabelUptoSaid : Prop := fnExactIsLabelUptoRow.holds Try.pinned (OpenSpec.upto fnExactIsLabelSpec)

/-- 'laws.FnExactIsLeg', WHERE WHAT IT READS IS OF BULK AT MOST 1048576: true; the input reads as it did. -/
def fnExactIsLegUptoRow : OpenClaim := { program := "ytogdmidldaeheaa", sum := "d2b42af98d2f3eb7759566f9d6362be886d136752485d62fc53a02647016e2a1", func := "loop.example/g03014/laws.FnExactIsLeg", spec := "fnExactIsLeg", apart := false, narrowed := true }
def FnExactIsLegUptoSaid : Prop := fnExactIsLegUptoRow.holds Try.pinned (OpenSpec.upto fnExactIsLegSpec)

/-- 'laws.FnExactVolumeOf', WHERE WHAT IT READS IS OF BULK AT MOST 1048576: true; the input reads as it did. -/
def fnExactVolumeOfUptoRow : OpenClaim := { program := "ytogdmidldaeheaa", sum := "d2b42af98d2f3eb7759566f9d6362be886d136752485d62fc53a02647016e2a1", func := "loop.example/g03014/laws.FnExactVolumeOf", spec := "fnExactVolumeOf", apart := false, narrowed := true }
def FnExactVolumeOfUptoSaid : Prop := fnExactVolumeOfUptoRow.holds Try.pinned (OpenSpec.upto fnExactVolumeOfSpec)

/-- 'laws.FnExactCompareLabels', WHERE WHAT IT READS IS OF BULK AT MOST 1048576: true; the input reads as it did. -/
def fnExactCompareLabelsUptoRow : OpenClaim := { program := "ytogdmidldaeheaa", sum := "d2b42af98d2f3eb7759566f9d6362be886d136752485d62fc53a02647016e2a1", func := "loop.example/g03014/laws.FnExactCompareLabels", spec := "fnExactCompareLabels", inPlace := ["internal/bytealg.abigen_runtime_cmpstring"], apart := false, narrowed := true }
def FnExactCompareLabelsUptoSaid : Prop := fnExactCompareLabelsUptoRow.holds Try.pinned (OpenSpec.upto fnExactCompareLabelsSpec)

/-- 'laws.FnZone', WHERE WHAT IT READS IS OF BULK AT MOST 1048576: true; the input reads as it did. -/
def fnZoneUptoRow : OpenClaim := { program := "ytogdmidldaeheaa", sum := "d2b42af98d2f3eb7759566f9d6362be886d136752485d62fc53a02647016e2a1", func := "loop.example/g03014/laws.FnZone", spec := "fnZone", apart := false, narrowed := true }
def FnZoneUptoSaid : Prop := fnZoneUptoRow.holds Try.pinned (OpenSpec.upto fnZoneSpec)

/-- 'laws.FnExactAreZones', WHERE WHAT IT READS IS OF BULK AT MOST 1048576: true; the input reads as it did. -/
def fnExactAreZonesUptoRow : OpenClaim := { program := "ytogdmidldaeheaa", sum := "d2b42af98d2f3eb7759566f9d6362be886d136752485d62fc53a02647016e2a1", func := "loop.example/g03014/laws.FnExactAreZones", spec := "fnExactAreZones", apart := false, narrowed := true }
def FnExactAreZonesUptoSaid : Prop := fnExactAreZonesUptoRow.holds Try.pinned (OpenSpec.upto fnExactAreZonesSpec)

/-- 'laws.FnExactAreRates', WHERE WHAT IT READS IS OF BULK AT MOST 1048576: true; the input reads as it did. -/
def fnExactAreRatesUptoRow : OpenClaim := { program := "ytogdmidldaeheaa", sum := "d2b42af98d2f3eb7759566f9d6362be886d136752485d62fc53a02647016e2a1", func := "loop.example/g03014/laws.FnExactAreRates", spec := "fnExactAreRates", apart := false, narrowed := true }
def FnExactAreRatesUptoSaid : Prop := fnExactAreRatesUptoRow.holds Try.pinned (OpenSpec.upto fnExactAreRatesSpec)

/-- 'laws.FnLabelOrder', WHERE WHAT IT READS IS OF BULK AT MOST 1048576: true; the input reads as it did. -/
def fnLabelOrderUptoRow : OpenClaim := { program := "ytogdmidldaeheaa", sum := "d2b42af98d2f3eb7759566f9d6362be886d136752485d62fc53a02647016e2a1", func := "loop.example/g03014/laws.FnLabelOrder", spec := "fnLabelOrder", inPlace := ["internal/bytealg.abigen_runtime_cmpstring"], apart := false, narrowed := true }
def FnLabelOrderUptoSaid : Prop := fnLabelOrderUptoRow.holds Try.pinned (OpenSpec.upto fnLabelOrderSpec)

/-- 'laws.FnExactZoneOf', WHERE WHAT IT READS IS OF BULK AT MOST 1048576: true; the input reads as it did. -/
def fnExactZoneOfUptoRow : OpenClaim := { program := "ytogdmidldaeheaa", sum := "d2b42af98d2f3eb7759566f9d6362be886d136752485d62fc53a02647016e2a1", func := "loop.example/g03014/laws.FnExactZoneOf", spec := "fnExactZoneOf", apart := false, narrowed := true }
def FnExactZoneOfUptoSaid : Prop := fnExactZoneOfUptoRow.holds Try.pinned (OpenSpec.upto fnExactZoneOfSpec)

/-- 'laws.FnExactIsNetwork', WHERE WHAT IT READS IS OF BULK AT MOST 1048576: true; the input reads as it did. -/
def fnExactIsNetworkUptoRow : OpenClaim := { program := "ytogdmidldaeheaa", sum := "d2b42af98d2f3eb7759566f9d6362be886d136752485d62fc53a02647016e2a1", func := "loop.example/g03014/laws.FnExactIsNetwork", spec := "fnExactIsNetwork", apart := false, narrowed := true }
def FnExactIsNetworkUptoSaid : Prop := fnExactIsNetworkUptoRow.holds Try.pinned (OpenSpec.upto fnExactIsNetworkSpec)

/-- 'laws.FnExactRunsOn', WHERE WHAT IT READS IS OF BULK AT MOST 1048576: true; the input reads as it did. -/
def fnExactRunsOnUptoRow : OpenClaim := { program := "ytogdmidldaeheaa", sum := "d2b42af98d2f3eb7759566f9d6362be886d136752485d62fc53a02647016e2a1", func := "loop.example/g03014/laws.FnExactRunsOn", spec := "fnExactRunsOn", apart := false, narrowed := true }
def FnExactRunsOnUptoSaid : Prop := fnExactRunsOnUptoRow.holds Try.pinned (OpenSpec.upto fnExactRunsOnSpec)

/-- 'laws.FnExactIsTrip', WHERE WHAT IT READS IS OF BULK AT MOST 1048576: true; the input reads as it did. -/
def fnExactIsTripUptoRow : OpenClaim := { program := "ytogdmidldaeheaa", sum := "d2b42af98d2f3eb7759566f9d6362be886d136752485d62fc53a02647016e2a1", func := "loop.example/g03014/laws.FnExactIsTrip", spec := "fnExactIsTrip", apart := false, narrowed := true }
def FnExactIsTripUptoSaid : Prop := fnExactIsTripUptoRow.holds Try.pinned (OpenSpec.upto fnExactIsTripSpec)

/-- 'laws.FnExactStartsAt', WHERE WHAT IT READS IS OF BULK AT MOST 1048576: true; the input reads as it did. -/
def fnExactStartsAtUptoRow : OpenClaim := { program := "ytogdmidldaeheaa", sum := "d2b42af98d2f3eb7759566f9d6362be886d136752485d62fc53a02647016e2a1", func := "loop.example/g03014/laws.FnExactStartsAt", spec := "fnExactStartsAt", apart := false, narrowed := true }
def FnExactStartsAtUptoSaid : Prop := fnExactStartsAtUptoRow.holds Try.pinned (OpenSpec.upto fnExactStartsAtSpec)

/-- 'laws.FnExactEndsAt', WHERE WHAT IT READS IS OF BULK AT MOST 1048576: true; the input reads as it did. -/
def fnExactEndsAtUptoRow : OpenClaim := { program := "ytogdmidldaeheaa", sum := "d2b42af98d2f3eb7759566f9d6362be886d136752485d62fc53a02647016e2a1", func := "loop.example/g03014/laws.FnExactEndsAt", spec := "fnExactEndsAt", apart := false, narrowed := true }
def FnExactEndsAtUptoSaid : Prop := fnExactEndsAtUptoRow.holds Try.pinned (OpenSpec.upto fnExactEndsAtSpec)

/-- 'laws.FnLast', WHERE WHAT IT READS IS OF BULK AT MOST 1048576: true; the input reads as it did. -/
def fnLastUptoRow : OpenClaim := { program := "ytogdmidldaeheaa", sum := "d2b42af98d2f3eb7759566f9d6362be886d136752485d62fc53a02647016e2a1", func := "loop.example/g03014/laws.FnLast", spec := "fnLast", apart := false, narrowed := true }
def FnLastUptoSaid : Prop := fnLastUptoRow.holds Try.pinned (OpenSpec.upto fnLastSpec)

/-- 'laws.FnNext', WHERE WHAT IT READS IS OF BULK AT MOST 1048576: true; the input reads as it did. -/
def fnNextUptoRow : OpenClaim := { program := "ytogdmidldaeheaa", sum := "d2b42af98d2f3eb7759566f9d6362be886d136752485d62fc53a02647016e2a1", func := "loop.example/g03014/laws.FnNext", spec := "fnNext", apart := false, narrowed := true }
def FnNextUptoSaid : Prop := fnNextUptoRow.holds Try.pinned (OpenSpec.upto fnNextSpec)

/-- 'laws.FnExactLastTrip', WHERE WHAT IT READS IS OF BULK AT MOST 1048576: true; the input reads as it did. -/
def fnExactLastTripUptoRow : OpenClaim := { program := "ytogdmidldaeheaa", sum := "d2b42af98d2f3eb7759566f9d6362be886d136752485d62fc53a02647016e2a1", func := "loop.example/g03014/laws.FnExactLastTrip", spec := "fnExactLastTrip", apart := false, narrowed := true }
def FnExactLastTripUptoSaid : Prop := fnExactLastTripUptoRow.holds Try.pinned (OpenSpec.upto fnExactLastTripSpec)

/-- 'laws.FnExactNextTrip', WHERE WHAT IT READS IS OF BULK AT MOST 1048576: true; the input reads as it did. -/
def fnExactNextTripUptoRow : OpenClaim := { program := "ytogdmidldaeheaa", sum := "d2b42af98d2f3eb7759566f9d6362be886d136752485d62fc53a02647016e2a1", func := "loop.example/g03014/laws.FnExactNextTrip", spec := "fnExactNextTrip", apart := false, narrowed := true }
def FnExactNextTripUptoSaid : Prop := fnExactNextTripUptoRow.holds Try.pinned (OpenSpec.upto fnExactNextTripSpec)

end Rows
end Go.Proofs.Ytogdmidldaeheaa
