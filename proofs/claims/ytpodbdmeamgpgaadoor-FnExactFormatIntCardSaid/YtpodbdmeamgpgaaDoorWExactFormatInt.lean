/- The law FnExactFormatInt walked: it returns true. No condition. -/
import Derived.Test.YtpodbdmeamgpgaaDoorFmt
import Derived.Test.YtpodbdmeamgpgaaDoorArgs
namespace Go.Proofs.YtpodbdmeamgpgaaDoor
open Go.RowKit Go.PlainAid
set_option maxRecDepth 100000
set_option linter.unusedVariables false
theorem walk_ExactFormatInt (v0 : Value) (w : World) (h0 : VInt v0) (ht : Tabs w) : Calls Tryd.prog 3 #[v0] w fun e w' => e = .returned (.bool true) ∧ Below w.heap.size w w' := by
  obtain ⟨n, rfl, hn⟩ := h0
  go_enter Tryd.func3, Tryd.ntmps3
  go_wp2_with fail
  refine (fmtS n _ hn).mono ?_
  rintro e w1 ⟨r, rfl, H, hr, b1⟩
  go_wp2_with fail
  refine (fmtI n _ hn (ht.keep b1)).mono ?_
  rintro e w2 ⟨q, rfl, Hq, hq, b2⟩
  obtain rfl : q = r := same_text Hq H
  go_wp2_with fail
  go_ret
  exact ⟨rfl, chain b1 b2⟩
end Go.Proofs.YtpodbdmeamgpgaaDoor
