/- The law FnExactParseInt walked: it returns true. No condition. -/
import Derived.Test.YtpodbdmeamgpgaaDoorParse
import Derived.Test.YtpodbdmeamgpgaaDoorArgs
namespace Go.Proofs.YtpodbdmeamgpgaaDoor
open Go.RowKit Go.PlainAid
set_option maxRecDepth 100000
set_option linter.unusedVariables false
theorem walk_ExactParseInt (v0 : Value) (w : World) (h0 : VStr v0) (ht : Errs w) : Calls Tryd.prog 9 #[v0] w fun e w' => e = .returned (.bool true) ∧ Below w.heap.size w w' := by
  obtain ⟨s, rfl, hs⟩ := h0
  unfold maxLen at hs
  by_cases hb : (s.size : Int) ≤ 1048576
  · go_enter Tryd.func9, Tryd.ntmps9
    go_wp2_with fail
    refine (parseS s _ (by omega)).mono ?_
    rintro e w1 ⟨n, k, rfl, H, n0, n1, b1⟩
    go_wp2_with fail
    refine (parseI s _ (by omega) (ht.keep b1)).mono ?_
    rintro e w2 ⟨m, j, rfl, Hm, m0, m1, b2⟩
    obtain ⟨rfl, rfl⟩ := Hm.out.unique H.out
    cases j
    all_goals
      go_wp2_with fail
      go_ret
      exact ⟨rfl, chain b1 b2⟩
  · go_enter Tryd.func9, Tryd.ntmps9
    go_wp2_with fail
    go_ret
    exact ⟨rfl, Below.refl _ _⟩
end Go.Proofs.YtpodbdmeamgpgaaDoor
