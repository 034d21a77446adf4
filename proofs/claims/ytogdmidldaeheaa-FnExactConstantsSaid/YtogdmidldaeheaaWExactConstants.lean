/- The law FnExactConstants walked: it returns true. No condition. -/
import Derived.Test.YtogdmidldaeheaaBase
namespace Go.Proofs.Ytogdmidldaeheaa
open Go.RowKit
set_option maxRecDepth 100000
theorem walk_ExactConstants (w : World) : Calls Try.prog 3 #[] w fun e w' => e = .returned (.bool true) ∧ Below w.heap.size w w' := by
  go_enter Try.func3, Try.ntmps3
  go_wp2
  go_ret
  exact ⟨rfl, Below.refl _ _⟩
end Go.Proofs.Ytogdmidldaeheaa
