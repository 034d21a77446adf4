/- How the laws copy and compare a trip. No condition. -/
import Derived.Test.YtdmeinfdldiegaaNetCopy
namespace Go.Proofs.Ytdmeinfdldiegaa
open Go.RowKit Go.PlainAid
set_option maxRecDepth 100000
set_option linter.unusedVariables false
set_option maxHeartbeats 1600000 in
theorem eqTrip_same (a b : Int) (w : World) : Calls Try.prog 34 #[.agg #[.int .i64 a, .int .i64 b], .agg #[.int .i64 a, .int .i64 b]] w fun e w' => e = .returned (.bool true) ∧ Below w.heap.size w w' := by
  go_enter Try.func34, Try.ntmps34
  go_wp2
  go_ret
  exact ⟨rfl, by go_grown⟩
end Go.Proofs.Ytdmeinfdldiegaa
