/- The law FnExactMod97 walked: it returns true. No condition. -/
import Derived.Test.YtogdmidldaeheaaMod
namespace Go.Proofs.Ytogdmidldaeheaa
open Go.RowKit Go.PlainAid
set_option maxRecDepth 100000
set_option maxHeartbeats 800000 in
theorem walk_ExactMod97 (v0 : Value) (w : World) (h0 : VStr v0) : Calls Try.prog 6 #[v0] w fun e w' => e = .returned (.bool true) ∧ Below w.heap.size w w' := by
  obtain ⟨s, rfl, hs⟩ := h0
  have hs' := hs
  unfold maxLen at hs'
  by_cases hb : (1048576 : Int) < (s.size : Int)
  · go_enter Try.func6, Try.ntmps6
    go_wp2
    go_ret
    exact ⟨rfl, Below.refl _ _⟩
  · go_enter Try.func6, Try.ntmps6
    go_wp2_with (first | (go_at_call 29; refine (mod97S _ _ hs).mono ?_; rintro e w' ⟨rfl, rfl⟩) | (go_at_call 30; refine (mod97I _ _ hs).mono ?_; rintro e w' ⟨rfl, rfl⟩))
    go_ret
    exact ⟨rfl, Below.refl _ _⟩
end Go.Proofs.Ytogdmidldaeheaa
