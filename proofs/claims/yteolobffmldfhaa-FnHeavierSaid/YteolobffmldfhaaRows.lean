/-
  No cell of these rows narrows 'for every input' (looked for: loops, veiled, ifaces, maps, wideKeys, modest, calm, conditions, laid).
  DERIVED. THE GIVEN ROWS OF THIS SEAT. 11 by the template 'for every input the law returns true; each argument reads behind the call as it read before'; 0 by the template 'total and deterministic' (their statements: YteolobffmldfhaaTotals.lean).
  GIVEN WITH THE SEED: the statements are not yours to turn. If you find one false, say at which input.
  Laid BY PROGRAM, IN A SANDBOX (cutbox-rows.mjs): the forced cells as the released guide's own fill.sh prints them over the translation 4074142d4c230d8a… (all of the seat's roots in one cut). By AI agents, Wed Nov 11 2026. No macro, syntax, notation, axiom, sorry.
-/
import Derived.Test.YteolobffmldfhaaChecked
import GoSem.Claim
import GoSem.ClaimJoined
import GoSem.ClaimMapViews
import Derived.JoinedTies
import Derived.KernelRfl
namespace Go.Proofs.Yteolobffmldfhaa
/- THE CELL 'sum', in the pinned program and in every row, IS THE sha256 OF THE DUMP (.gsa) THAT YteolobffmldfhaaProg.lean LOADS. Nothing in Lean hashes anything: it is a label: what it is worth is what the hold of that sum in a sandbox is worth. -/
noncomputable def Try.pinned : Pinned := { name := "yteolobffmldfhaa", sum := "4074142d4c230d8acd58db8c54cbcd469e2133d3bc84060321ee2fd91b9e344a", checked := Try.checked }
namespace Rows
def none {H : Type} : Left H := { results := [], args := [] }

/-- 'laws.FnExactSortSides': WHATEVER THE INPUT: true; the input reads as it did. -/
def fnExactSortSidesSpec : ChangeSpec := { name := "fnExactSortSides", fn := fun _ => fun
  | [d] => { results := [.lit (.bool true)], args := [d] }
  | _ => none }
def fnExactSortSidesRow : OpenClaim := { program := "yteolobffmldfhaa", sum := "4074142d4c230d8acd58db8c54cbcd469e2133d3bc84060321ee2fd91b9e344a", func := "loop.example/g03014/laws.FnExactSortSides", spec := "fnExactSortSides", unfollowed := true, recurses := true, apart := false }
def FnExactSortSidesSaid : Prop := fnExactSortSidesRow.holds Try.pinned (OpenSpec.ofChange fnExactSortSidesSpec)

/-- ITS FALSE NEIGHBOUR: 'it returns false'. Refute it at one input. -/
def fnExactSortSidesWrong : ChangeSpec := { name := "fnExactSortSides", fn := fun _ => fun
  | [d] => { results := [.lit (.bool false)], args := [d] }
  | _ => none }
def FnExactSortSidesWrongFalsely : Prop := fnExactSortSidesRow.holds Try.pinned (OpenSpec.ofChange fnExactSortSidesWrong)

/-- 'laws.FnExactGirthOf': WHATEVER THE INPUT: true; the input reads as it did. -/
def fnExactGirthOfSpec : ChangeSpec := { name := "fnExactGirthOf", fn := fun _ => fun
  | [d] => { results := [.lit (.bool true)], args := [d] }
  | _ => none }
def fnExactGirthOfRow : OpenClaim := { program := "yteolobffmldfhaa", sum := "4074142d4c230d8acd58db8c54cbcd469e2133d3bc84060321ee2fd91b9e344a", func := "loop.example/g03014/laws.FnExactGirthOf", spec := "fnExactGirthOf", unfollowed := true, recurses := true, apart := false }
def FnExactGirthOfSaid : Prop := fnExactGirthOfRow.holds Try.pinned (OpenSpec.ofChange fnExactGirthOfSpec)

/-- ITS FALSE NEIGHBOUR: 'it returns false'. Refute it at one input. -/
def fnExactGirthOfWrong : ChangeSpec := { name := "fnExactGirthOf", fn := fun _ => fun
  | [d] => { results := [.lit (.bool false)], args := [d] }
  | _ => none }
def FnExactGirthOfWrongFalsely : Prop := fnExactGirthOfRow.holds Try.pinned (OpenSpec.ofChange fnExactGirthOfWrong)

/-- 'laws.FnExactFitsIn': WHATEVER THE INPUT: true; the input reads as it did. -/
def fnExactFitsInSpec : ChangeSpec := { name := "fnExactFitsIn", fn := fun _ => fun
  | [d1, d2] => { results := [.lit (.bool true)], args := [d1, d2] }
  | _ => none }
def fnExactFitsInRow : OpenClaim := { program := "yteolobffmldfhaa", sum := "4074142d4c230d8acd58db8c54cbcd469e2133d3bc84060321ee2fd91b9e344a", func := "loop.example/g03014/laws.FnExactFitsIn", spec := "fnExactFitsIn", unfollowed := true, recurses := true, apart := false }
def FnExactFitsInSaid : Prop := fnExactFitsInRow.holds Try.pinned (OpenSpec.ofChange fnExactFitsInSpec)

/-- ITS FALSE NEIGHBOUR: 'it returns false'. Refute it at one input. -/
def fnExactFitsInWrong : ChangeSpec := { name := "fnExactFitsIn", fn := fun _ => fun
  | [d1, d2] => { results := [.lit (.bool false)], args := [d1, d2] }
  | _ => none }
def FnExactFitsInWrongFalsely : Prop := fnExactFitsInRow.holds Try.pinned (OpenSpec.ofChange fnExactFitsInWrong)

/-- 'laws.FnFits': WHATEVER THE INPUT: true; the input reads as it did. -/
def fnFitsSpec : ChangeSpec := { name := "fnFits", fn := fun _ => fun
  | [d] => { results := [.lit (.bool true)], args := [d] }
  | _ => none }
def fnFitsRow : OpenClaim := { program := "yteolobffmldfhaa", sum := "4074142d4c230d8acd58db8c54cbcd469e2133d3bc84060321ee2fd91b9e344a", func := "loop.example/g03014/laws.FnFits", spec := "fnFits", unfollowed := true, recurses := true, apart := false }
def FnFitsSaid : Prop := fnFitsRow.holds Try.pinned (OpenSpec.ofChange fnFitsSpec)

/-- ITS FALSE NEIGHBOUR: 'it returns false'. Refute it at one input. -/
def fnFitsWrong : ChangeSpec := { name := "fnFits", fn := fun _ => fun
  | [d] => { results := [.lit (.bool false)], args := [d] }
  | _ => none }
def FnFitsWrongFalsely : Prop := fnFitsRow.holds Try.pinned (OpenSpec.ofChange fnFitsWrong)

/-- 'laws.FnExactIsParcel': WHATEVER THE INPUT: true; the input reads as it did. -/
def fnExactIsParcelSpec : ChangeSpec := { name := "fnExactIsParcel", fn := fun _ => fun
  | [d] => { results := [.lit (.bool true)], args := [d] }
  | _ => none }
def fnExactIsParcelRow : OpenClaim := { program := "yteolobffmldfhaa", sum := "4074142d4c230d8acd58db8c54cbcd469e2133d3bc84060321ee2fd91b9e344a", func := "loop.example/g03014/laws.FnExactIsParcel", spec := "fnExactIsParcel", unfollowed := true, recurses := true, apart := false }
def FnExactIsParcelSaid : Prop := fnExactIsParcelRow.holds Try.pinned (OpenSpec.ofChange fnExactIsParcelSpec)

/-- ITS FALSE NEIGHBOUR: 'it returns false'. Refute it at one input. -/
def fnExactIsParcelWrong : ChangeSpec := { name := "fnExactIsParcel", fn := fun _ => fun
  | [d] => { results := [.lit (.bool false)], args := [d] }
  | _ => none }
def FnExactIsParcelWrongFalsely : Prop := fnExactIsParcelRow.holds Try.pinned (OpenSpec.ofChange fnExactIsParcelWrong)

/-- 'laws.FnTurned': WHATEVER THE INPUT: true; the input reads as it did. -/
def fnTurnedSpec : ChangeSpec := { name := "fnTurned", fn := fun _ => fun
  | [d] => { results := [.lit (.bool true)], args := [d] }
  | _ => none }
def fnTurnedRow : OpenClaim := { program := "yteolobffmldfhaa", sum := "4074142d4c230d8acd58db8c54cbcd469e2133d3bc84060321ee2fd91b9e344a", func := "loop.example/g03014/laws.FnTurned", spec := "fnTurned", unfollowed := true, recurses := true, apart := false }
def FnTurnedSaid : Prop := fnTurnedRow.holds Try.pinned (OpenSpec.ofChange fnTurnedSpec)

/-- ITS FALSE NEIGHBOUR: 'it returns false'. Refute it at one input. -/
def fnTurnedWrong : ChangeSpec := { name := "fnTurned", fn := fun _ => fun
  | [d] => { results := [.lit (.bool false)], args := [d] }
  | _ => none }
def FnTurnedWrongFalsely : Prop := fnTurnedRow.holds Try.pinned (OpenSpec.ofChange fnTurnedWrong)

/-- 'laws.FnExactChargeWeight': WHATEVER THE INPUT: true; the input reads as it did. -/
def fnExactChargeWeightSpec : ChangeSpec := { name := "fnExactChargeWeight", fn := fun _ => fun
  | [d] => { results := [.lit (.bool true)], args := [d] }
  | _ => none }
def fnExactChargeWeightRow : OpenClaim := { program := "yteolobffmldfhaa", sum := "4074142d4c230d8acd58db8c54cbcd469e2133d3bc84060321ee2fd91b9e344a", func := "loop.example/g03014/laws.FnExactChargeWeight", spec := "fnExactChargeWeight", unfollowed := true, recurses := true, apart := false }
def FnExactChargeWeightSaid : Prop := fnExactChargeWeightRow.holds Try.pinned (OpenSpec.ofChange fnExactChargeWeightSpec)

/-- ITS FALSE NEIGHBOUR: 'it returns false'. Refute it at one input. -/
def fnExactChargeWeightWrong : ChangeSpec := { name := "fnExactChargeWeight", fn := fun _ => fun
  | [d] => { results := [.lit (.bool false)], args := [d] }
  | _ => none }
def FnExactChargeWeightWrongFalsely : Prop := fnExactChargeWeightRow.holds Try.pinned (OpenSpec.ofChange fnExactChargeWeightWrong)

/-- 'laws.FnHeavier': WHATEVER THE INPUT: true; the input reads as it did. -/
def fnHeavierSpec : ChangeSpec := { name := "fnHeavier", fn := fun _ => fun
  | [d] => { results := [.lit (.bool true)], args := [d] }
  | _ => none }
def fnHeavierRow : OpenClaim := { program := "yteolobffmldfhaa", sum := "4074142d4c230d8acd58db8c54cbcd469e2133d3bc84060321ee2fd91b9e344a", func := "loop.example/g03014/laws.FnHeavier", spec := "fnHeavier", unfollowed := true, recurses := true, apart := false }
def FnHeavierSaid : Prop := fnHeavierRow.holds Try.pinned (OpenSpec.ofChange fnHeavierSpec)

/-- ITS FALSE NEIGHBOUR: 'it returns false'. Refute it at one input. -/
def fnHeavierWrong : ChangeSpec := { name := "fnHeavier", fn := fun _ => fun
  | [d] => { results := [.lit (.bool false)], args := [d] }
  | _ => none }
def FnHeavierWrongFalsely : Prop := fnHeavierRow.holds Try.pinned (OpenSpec.ofChange fnHeavierWrong)

/-- 'laws.FnCheapest': WHATEVER THE INPUT: true; the input reads as it did. -/
def fnCheapestSpec : ChangeSpec := { name := "fnCheapest", fn := fun _ => fun
  | [d] => { results := [.lit (.bool true)], args := [d] }
  | _ => none }
def fnCheapestRow : OpenClaim := { program := "yteolobffmldfhaa", sum := "4074142d4c230d8acd58db8c54cbcd469e2133d3bc84060321ee2fd91b9e344a", func := "loop.example/g03014/laws.FnCheapest", spec := "fnCheapest", unfollowed := true, recurses := true, apart := false }
def FnCheapestSaid : Prop := fnCheapestRow.holds Try.pinned (OpenSpec.ofChange fnCheapestSpec)

/-- ITS FALSE NEIGHBOUR: 'it returns false'. Refute it at one input. -/
def fnCheapestWrong : ChangeSpec := { name := "fnCheapest", fn := fun _ => fun
  | [d] => { results := [.lit (.bool false)], args := [d] }
  | _ => none }
def FnCheapestWrongFalsely : Prop := fnCheapestRow.holds Try.pinned (OpenSpec.ofChange fnCheapestWrong)

/-- 'laws.FnExactPriceOf': WHATEVER THE INPUT: true; the input reads as it did. -/
def fnExactPriceOfSpec : ChangeSpec := { name := "fnExactPriceOf", fn := fun _ => fun
  | [d1, d2, d3] => { results := [.lit (.bool true)], args := [d1, d2, d3] }
  | _ => none }
def fnExactPriceOfRow : OpenClaim := { program := "yteolobffmldfhaa", sum := "4074142d4c230d8acd58db8c54cbcd469e2133d3bc84060321ee2fd91b9e344a", func := "loop.example/g03014/laws.FnExactPriceOf", spec := "fnExactPriceOf", unfollowed := true, recurses := true, apart := false }
def FnExactPriceOfSaid : Prop := fnExactPriceOfRow.holds Try.pinned (OpenSpec.ofChange fnExactPriceOfSpec)

/-- ITS FALSE NEIGHBOUR: 'it returns false'. Refute it at one input. -/
def fnExactPriceOfWrong : ChangeSpec := { name := "fnExactPriceOf", fn := fun _ => fun
  | [d1, d2, d3] => { results := [.lit (.bool false)], args := [d1, d2, d3] }
  | _ => none }
def FnExactPriceOfWrongFalsely : Prop := fnExactPriceOfRow.holds Try.pinned (OpenSpec.ofChange fnExactPriceOfWrong)

/-- 'laws.FnExactCheapestService': WHATEVER THE INPUT: true; the input reads as it did. -/
def fnExactCheapestServiceSpec : ChangeSpec := { name := "fnExactCheapestService", fn := fun _ => fun
  | [d1, d2, d3] => { results := [.lit (.bool true)], args := [d1, d2, d3] }
  | _ => none }
def fnExactCheapestServiceRow : OpenClaim := { program := "yteolobffmldfhaa", sum := "4074142d4c230d8acd58db8c54cbcd469e2133d3bc84060321ee2fd91b9e344a", func := "loop.example/g03014/laws.FnExactCheapestService", spec := "fnExactCheapestService", unfollowed := true, recurses := true, apart := false }
def FnExactCheapestServiceSaid : Prop := fnExactCheapestServiceRow.holds Try.pinned (OpenSpec.ofChange fnExactCheapestServiceSpec)

/-- ITS FALSE NEIGHBOUR: 'it returns false'. Refute it at one input. -/
def fnExactCheapestServiceWrong : ChangeSpec := { name := "fnExactCheapestService", fn := fun _ => fun
  | [d1, d2, d3] => { results := [.lit (.bool false)], args := [d1, d2, d3] }
  | _ => none }
def FnExactCheapestServiceWrongFalsely : Prop := fnExactCheapestServiceRow.holds Try.pinned (OpenSpec.ofChange fnExactCheapestServiceWrong)

/- THE SECOND FORM. 'bulk': how many values and letters a reading holds, each counted each time it is reached (what is shared counts as often as it is met; a slice's spare places count too). A statement '..UptoSaid' is the law's where the arguments, and the package variables that the reading takes, are together of bulk at most 1048576: NARROWER than '..Said'. Prove '..Said' where nothing that the law and all that it calls make is longer than what came in: it says more and counts as full. Else prove '..UptoSaid'. A law counts once. -/
mutual
def uptoBulk {H : Type} : DataW H → Nat
  | .lit (.string bytes) => bytes.length + 1
  | .lit _ => 1
  | .nil => 1
  | .ptr d => uptoBulk d + 1
  | .slice elems spare => uptoBulkAll elems + uptoBulkAll spare + 1
  | .agg parts => uptoBulkAll parts + 1
  | .iface _ d => uptoBulk d + 1
  | .map entries => uptoBulkEntries entries + 1
  | .held _ => 1
def uptoBulkAll {H : Type} : List (DataW H) → Nat
  | [] => 0
  | d :: r => uptoBulk d + uptoBulkAll r
def uptoBulkEntries {H : Type} : List (Lit × DataW H) → Nat
  | [] => 0
  | x :: r => uptoBulkEntry x + uptoBulkEntries r
def uptoBulkEntry {H : Type} : Lit × DataW H → Nat
  | (.string bytes, d) => bytes.length + uptoBulk d + 1
  | (_, d) => uptoBulk d + 1
 end
def uptoSmall : (H : Type) → List (DataW H) → Bool := fun _ ds => decide (uptoBulkAll ds ≤ 1048576)
def OpenSpec.upto (s : _root_.Go.ChangeSpec) : _root_.Go.OpenSpec := { _root_.Go.OpenSpec.ofChange s with cond := some uptoSmall }

/-- 'laws.FnExactSortSides', WHERE WHAT IT READS IS OF BULK AT MOST 1048576: true; the input reads as it did. -/
def fnExactSortSidesUptoRow : OpenClaim := { program := "yteolobffmldfhaa", sum := "4074142d4c230d8acd58db8c54cbcd469e2133d3bc84060321ee2fd91b9e344a", func := "loop.example/g03014/laws.FnExactSortSides", spec := "fnExactSortSides", unfollowed := true, recurses := true, apart := false, narrowed := true }
def FnExactSortSidesUptoSaid : Prop := fnExactSortSidesUptoRow.holds Try.pinned (OpenSpec.upto fnExactSortSidesSpec)

/-- 'laws.FnExactGirthOf', WHERE WHAT IT READS IS OF BULK AT MOST 1048576: true; the input reads as it did. -/
def fnExactGirthOfUptoRow : OpenClaim := { program := "yteolobffmldfhaa", sum := "4074142d4c230d8acd58db8c54cbcd469e2133d3bc84060321ee2fd91b9e344a", func := "loop.example/g03014/laws.FnExactGirthOf", spec := "fnExactGirthOf", unfollowed := true, recurses := true, apart := false, narrowed := true }
def FnExactGirthOfUptoSaid : Prop := fnExactGirthOfUptoRow.holds Try.pinned (OpenSpec.upto fnExactGirthOfSpec)

/-- 'laws.FnExactFitsIn', WHERE WHAT IT READS IS OF BULK AT MOST 1048576: true; the input reads as it did. -/
def fnExactFitsInUptoRow : OpenClaim := { program := "yteolobffmldfhaa", sum := "4074142d4c230d8acd58db8c54cbcd469e2133d3bc84060321ee2fd91b9e344a", func := "loop.example/g03014/laws.FnExactFitsIn", spec := "fnExactFitsIn", unfollowed := true, recurses := true, apart := false, narrowed := true }
def FnExactFitsInUptoSaid : Prop := fnExactFitsInUptoRow.holds Try.pinned (OpenSpec.upto fnExactFitsInSpec)

/-- 'laws.FnFits', WHERE WHAT IT READS IS OF BULK AT MOST 1048576: true; the input reads as it did. -/
def fnFitsUptoRow : OpenClaim := { program := "yteolobffmldfhaa", sum := "4074142d4c230d8acd58db8c54cbcd469e2133d3bc84060321ee2fd91b9e344a", func := "loop.example/g03014/laws.FnFits", spec := "fnFits", unfollowed := true, recurses := true, apart := false, narrowed := true }
def FnFitsUptoSaid : Prop := fnFitsUptoRow.holds Try.pinned (OpenSpec.upto fnFitsSpec)

/-- 'laws.FnExactIsParcel', WHERE WHAT IT READS IS OF BULK AT MOST 1048576: true; the input reads as it did. -/
def fnExactIsParcelUptoRow : OpenClaim := { program := "yteolobffmldfhaa", sum := "4074142d4c230d8acd58db8c54cbcd469e2133d3bc84060321ee2fd91b9e344a", func := "loop.example/g03014/laws.FnExactIsParcel", spec := "fnExactIsParcel", unfollowed := true, recurses := true, apart := false, narrowed := true }
def FnExactIsParcelUptoSaid : Prop := fnExactIsParcelUptoRow.holds Try.pinned (OpenSpec.upto fnExactIsParcelSpec)

/-- 'laws.FnTurned', WHERE WHAT IT READS IS OF BULK AT MOST 1048576: true; the input reads as it did. -/
def fnTurnedUptoRow : OpenClaim := { program := "yteolobffmldfhaa", sum := "4074142d4c230d8acd58db8c54cbcd469e2133d3bc84060321ee2fd91b9e344a", func := "loop.example/g03014/laws.FnTurned", spec := "fnTurned", unfollowed := true, recurses := true, apart := false, narrowed := true }
def FnTurnedUptoSaid : Prop := fnTurnedUptoRow.holds Try.pinned (OpenSpec.upto fnTurnedSpec)

/-- 'laws.FnExactChargeWeight', WHERE WHAT IT READS IS OF BULK AT MOST 1048576: true; the input reads as it did. -/
def fnExactChargeWeightUptoRow : OpenClaim := { program := "yteolobffmldfhaa", sum := "4074142d4c230d8acd58db8c54cbcd469e2133d3bc84060321ee2fd91b9e344a", func := "loop.example/g03014/laws.FnExactChargeWeight", spec := "fnExactChargeWeight", unfollowed := true, recurses := true, apart := false, narrowed := true }
def FnExactChargeWeightUptoSaid : Prop := fnExactChargeWeightUptoRow.holds Try.pinned (OpenSpec.upto fnExactChargeWeightSpec)

/-- 'laws.FnHeavier', WHERE WHAT IT READS IS OF BULK AT MOST 1048576: true; the input reads as it did. -/
def fnHeavierUptoRow : OpenClaim := { program := "yteolobffmldfhaa", sum := "4074142d4c230d8acd58db8c54cbcd469e2133d3bc84060321ee2fd91b9e344a", func := "loop.example/g03014/laws.FnHeavier", spec := "fnHeavier", unfollowed := true, recurses := true, apart := false, narrowed := true }
def FnHeavierUptoSaid : Prop := fnHeavierUptoRow.holds Try.pinned (OpenSpec.upto fnHeavierSpec)

/-- 'laws.FnCheapest', WHERE WHAT IT READS IS OF BULK AT MOST 1048576: true; the input reads as it did. -/
def fnCheapestUptoRow : OpenClaim := { program := "yteolobffmldfhaa", sum := "4074142d4c230d8acd58db8c54cbcd469e2133d3bc84060321ee2fd91b9e344a", func := "loop.example/g03014/laws.FnCheapest", spec := "fnCheapest", unfollowed := true, recurses := true, apart := false, narrowed := true }
def FnCheapestUptoSaid : Prop := fnCheapestUptoRow.holds Try.pinned (OpenSpec.upto fnCheapestSpec)

/-- 'laws.FnExactPriceOf', WHERE WHAT IT READS IS OF BULK AT MOST 1048576: true; the input reads as it did. -/
def fnExactPriceOfUptoRow : OpenClaim := { program := "yteolobffmldfhaa", sum := "4074142d4c230d8acd58db8c54cbcd469e2133d3bc84060321ee2fd91b9e344a", func := "loop.example/g03014/laws.FnExactPriceOf", spec := "fnExactPriceOf", unfollowed := true, recurses := true, apart := false, narrowed := true }
def FnExactPriceOfUptoSaid : Prop := fnExactPriceOfUptoRow.holds Try.pinned (OpenSpec.upto fnExactPriceOfSpec)

/-- 'laws.FnExactCheapestService', WHERE WHAT IT READS IS OF BULK AT MOST 1048576: true; the input reads as it did. -/
def fnExactCheapestServiceUptoRow : OpenClaim := { program := "yteolobffmldfhaa", sum := "4074142d4c230d8acd58db8c54cbcd469e2133d3bc84060321ee2fd91b9e344a", func := "loop.example/g03014/laws.FnExactCheapestService", spec := "fnExactCheapestService", unfollowed := true, recurses := true, apart := false, narrowed := true }
def FnExactCheapestServiceUptoSaid : Prop := fnExactCheapestServiceUptoRow.holds Try.pinned (OpenSpec.upto fnExactCheapestServiceSpec)

end Rows
end Go.Proofs.Yteolobffmldfhaa
