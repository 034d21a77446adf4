/- The law FnExactIsPlace walked: it returns true. No condition. -/
import Derived.Test.YtogdmidldaeheaaPlace
import Derived.Test.YtogdmidldaeheaaArgs
namespace Go.Proofs.Ytogdmidldaeheaa
open Go.RowKit Go.PlainAid
theorem walk_ExactIsPlace (v0 : Value) (w : World) (h0 : VStr v0) : Calls Try.prog 5 #[v0] w fun e w' => e = .returned (.bool true) ∧ Below w.heap.size w w' := by
  obtain ⟨s, rfl, hs⟩ := h0
  have hs' := hs
  unfold maxLen at hs'
  by_cases hb : (1048576 : Int) < (s.size : Int)
  · go_enter Try.func5, Try.ntmps5
    go_wp2
    go_ret
    exact ⟨rfl, Below.refl _ _⟩
  · go_enter Try.func5, Try.ntmps5
    go_wp2_with (first | (go_at_call 27; refine (isPlaceS _ _ hs).mono ?_; rintro e w' ⟨rfl, rfl⟩) | (go_at_call 28; refine (isPlaceI _ _ hs).mono ?_; rintro e w' ⟨rfl, rfl⟩))
    go_ret
    exact ⟨rfl, Below.refl _ _⟩
end Go.Proofs.Ytogdmidldaeheaa
