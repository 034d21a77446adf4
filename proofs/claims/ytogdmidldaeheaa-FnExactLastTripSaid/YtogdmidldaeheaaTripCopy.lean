/- How the laws copy and compare a trip. No condition. -/
import Derived.Test.YtogdmidldaeheaaNetCopy
namespace Go.Proofs.Ytogdmidldaeheaa
open Go.RowKit Go.PlainAid
set_option maxRecDepth 100000
set_option linter.unusedVariables false
set_option maxHeartbeats 1600000 in
theorem toTrip_any (a b : Int) (w : World) : Calls Try.prog 69 #[.agg #[.int .i64 a, .int .i64 b]] w fun e w' => e = .returned (.agg #[.int .i64 a, .int .i64 b]) ∧ Below w.heap.size w w' := by
  go_enter Try.func69, Try.ntmps69
  go_wp2
  go_returns
  exact ⟨rfl, by go_grown⟩
set_option maxHeartbeats 1600000 in
theorem eqTrip_same (a b : Int) (w : World) : Calls Try.prog 81 #[.agg #[.int .i64 a, .int .i64 b], .agg #[.int .i64 a, .int .i64 b]] w fun e w' => e = .returned (.bool true) ∧ Below w.heap.size w w' := by
  go_enter Try.func81, Try.ntmps81
  go_wp2
  go_ret
  exact ⟨rfl, by go_grown⟩
end Go.Proofs.Ytogdmidldaeheaa
