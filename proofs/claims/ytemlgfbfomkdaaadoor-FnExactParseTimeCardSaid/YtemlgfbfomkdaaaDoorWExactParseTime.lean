/- The law FnExactParseTime walked: it returns true. The condition: the library's variables read as their initialisers lay them. -/
import Derived.Test.YtemlgfbfomkdaaaDoorParseTime
namespace Go.Proofs.YtemlgfbfomkdaaaDoor
open Go.RowKit Go.PlainAid
set_option maxRecDepth 100000
set_option linter.unusedVariables false
theorem of_laidT {W : World} (h : laidMetH Tryd.prog Rows.fnExactParseTimeRow.laid W) : Errs W := by
  rw [MakeChecks.laidMetH_plain _ _ _ (by kernel_rfl)] at h
  have h0 := tabs_of h.tail.tail
  have h1 := h.tail.tail.tail
  obtain ⟨a1, s1, v1, -, -, -⟩ := laid_sentinel h1 gRan tErr2 Tryd.underlying51 rowES Tryd.underlying112 Tryd.underlying114 rfl rfl Tryd.underlying9 cES cStr
  obtain ⟨a2, s2, v2, -, -, -⟩ := laid_sentinel h1.tail gSyn tErr Tryd.underlying51 rowES Tryd.underlying112 Tryd.underlying114 rfl rfl Tryd.underlying9 cES cStr
  exact ⟨h0, ⟨_, _, v2⟩, _, _, v1⟩
set_option maxHeartbeats 1600000 in
theorem walk_ExactParseTime (v0 : Value) (w : World) (p0 : VStr v0) (h : Errs w) (hsh : w.ShapedOpen Tryd.prog) : Calls Tryd.prog 3 #[v0] w fun e w' => e = .returned (.bool true) ∧ Below w.heap.size w w' := by
  obtain ⟨s, rfl, hs⟩ := p0
  unfold maxLen at hs
  have hm := maxL_of hsh
  by_cases hb : 1048576 < (s.size : Int)
  · go_enter Tryd.func3, Tryd.ntmps3
    go_wp2_with fail
    go_ret
    exact ⟨rfl, Below.refl _ _⟩
  go_enter Tryd.func3, Tryd.ntmps3
  go_wp2_with fail
  refine (parseTimeS s _ (by omega) h.1).mono ?_
  rintro e w1 ⟨t, ok, rfl, HT, b1⟩
  go_wp2_with fail
  refine (parseTimeI s _ (by omega) (h.keep b1) (hm.keep b1)).mono ?_
  rintro e w2 ⟨t2, ok2, rfl, HT2, b2⟩
  obtain ⟨rfl, rfl⟩ := IsTime.unique HT.out HT2.out
  have e1 : (t != t) = false := by simp
  have e2 : (ok != ok) = false := by simp
  go_wp2_with fail
  go_ret
  exact ⟨rfl, chain b1 b2⟩
end Go.Proofs.YtemlgfbfomkdaaaDoor
