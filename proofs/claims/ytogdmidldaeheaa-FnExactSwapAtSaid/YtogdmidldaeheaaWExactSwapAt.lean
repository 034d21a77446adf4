/- The law FnExactSwapAt walked: it returns true. No condition. -/
import Derived.Test.YtogdmidldaeheaaSwap
namespace Go.Proofs.Ytogdmidldaeheaa
open Go.RowKit Go.PlainAid
set_option maxRecDepth 100000
set_option maxHeartbeats 800000 in
theorem walk_ExactSwapAt (v0 v1 : Value) (w : World) (h0 : VStr v0) (h1 : VInt v1) : Calls Try.prog 4 #[v0, v1] w fun e w' => e = .returned (.bool true) ∧ Below w.heap.size w w' := by
  obtain ⟨s, rfl, hs⟩ := h0
  obtain ⟨i, rfl, hi⟩ := h1
  unfold maxLen at hs
  by_cases hb : (1048576 : Int) < (s.size : Int)
  · go_enter Try.func4, Try.ntmps4
    go_wp2
    go_ret
    exact ⟨rfl, Below.refl _ _⟩
  · have hn : s.size ≤ 1048576 := by omega
    go_enter Try.func4, Try.ntmps4
    go_wp2_with fail
    refine (swapS s i _ hn hi).mono ?_
    rintro e w1 ⟨rfl, b1⟩
    go_wp2_with fail
    refine (swapI s i _ hn hi).mono ?_
    rintro e w2 ⟨rfl, b2⟩
    have B2 := chain b1 b2
    go_wp2_with fail
    go_ret
    exact ⟨rfl, B2⟩
end Go.Proofs.Ytogdmidldaeheaa
