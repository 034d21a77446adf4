/- The law FnExactDigits walked: it returns true. No condition. -/
import Derived.Test.YtpodbdmeamgpgaaDoorDigits
import Derived.Test.YtpodbdmeamgpgaaDoorArgs
namespace Go.Proofs.YtpodbdmeamgpgaaDoor
open Go.RowKit Go.PlainAid
set_option maxRecDepth 100000
set_option linter.unusedVariables false
theorem walk_ExactDigits (v0 : Value) (w : World) (h0 : VStr v0) (ht : Tabs w) : Calls Tryd.prog 4 #[v0] w fun e w' => e = .returned (.bool true) ∧ Below w.heap.size w w' := by
  obtain ⟨s, rfl, hs⟩ := h0
  unfold maxLen at hs
  by_cases hb : (s.size : Int) ≤ 1048576
  · go_enter Tryd.func4, Tryd.ntmps4
    go_wp2_with fail
    refine (digitsS s _ (by omega)).mono ?_
    rintro e w1 ⟨r, rfl, H, b1⟩
    go_wp2_with fail
    refine (digitsI s _ (by omega) (ht.keep b1)).mono ?_
    rintro e w2 ⟨q, rfl, Hq, b2⟩
    obtain rfl : q = r := same_text Hq H
    go_wp2_with fail
    go_ret
    exact ⟨rfl, chain b1 b2⟩
  · go_enter Tryd.func4, Tryd.ntmps4
    go_wp2_with fail
    go_ret
    exact ⟨rfl, Below.refl _ _⟩
end Go.Proofs.YtpodbdmeamgpgaaDoor
