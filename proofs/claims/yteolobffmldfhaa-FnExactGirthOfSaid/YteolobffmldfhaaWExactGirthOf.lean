/- The law FnExactGirthOf walked: it returns true. No condition. -/
import Derived.Test.YteolobffmldfhaaGirth
import Derived.Test.YteolobffmldfhaaInts
namespace Go.Proofs.Yteolobffmldfhaa
open Go.RowKit Go.PlainAid
set_option maxRecDepth 100000
set_option linter.unusedVariables false
set_option maxHeartbeats 1600000 in
theorem walk_ExactGirthOf (v0 : Value) (w : World) (p0 : VInts w v0) : Calls Try.prog 4 #[v0] w fun e w' => e = .returned (.bool true) ∧ Below w.heap.size w w' := by
  obtain ⟨xs0, hok0, h0⟩ := p0
  obtain ⟨A0, c0, rfl, hl0, hm0⟩ := h0.form
  unfold maxLen at hm0
  by_cases hb0 : (1048576 : Int) < (xs0.length : Int)
  · go_enter Try.func4, Try.ntmps4
    go_wp2
    go_ret
    exact ⟨rfl, Below.refl _ _⟩
  have hn0 : xs0.length ≤ 1048576 := by omega
  go_enter Try.func4, Try.ntmps4
  go_wp2_with fail
  refine (toIntS_any xs0 _ _ h0 hn0).mono ?_
  rintro e w1 ⟨u0, rfl, ou0, b1⟩
  have B1 : Below w.heap.size w w1 := b1
  have su0 := ou0.slice vI_len (by omega)
  go_wp2_with fail
  refine (girthS xs0 _ _ su0).mono ?_
  rintro e w2 ⟨rfl, b2⟩
  have B2 : Below w.heap.size w w2 := chain B1 b2
  replace su0 := su0.keep b2 (Nat.le_refl _)
  go_wp2_with fail
  refine (toIntS_any xs0 _ _ (h0.keep B2 (Nat.le_refl _)) hn0).mono ?_
  rintro e w3 ⟨x0, rfl, ox0, b3⟩
  have B3 : Below w.heap.size w w3 := chain B2 b3
  have sx0 := ox0.slice vI_len (by omega)
  go_wp2_with fail
  refine (girthI xs0 _ _ sx0).mono ?_
  rintro e w4 ⟨rfl, b4⟩
  have B4 : Below w.heap.size w w4 := chain B3 b4
  replace sx0 := sx0.keep b4 (Nat.le_refl _)
  go_wp2_with fail
  refine (toIntS_any xs0 _ _ (h0.keep B4 (Nat.le_refl _)) hn0).mono ?_
  rintro e w5 ⟨y0, rfl, oy0, b5⟩
  have B5 : Below w.heap.size w w5 := chain B4 b5
  replace sx0 := sx0.keep b5 (Nat.le_refl _)
  have sy0 := oy0.slice vI_len (by omega)
  go_wp2_with fail
  refine (eqIntS_any xs0 xs0 _ _ _ sx0 sy0).mono ?_
  rintro e w6 ⟨rfl, b6⟩
  have B6 : Below w.heap.size w w6 := chain B5 b6
  replace sx0 := sx0.keep b6 (Nat.le_refl _)
  replace sy0 := sy0.keep b6 (Nat.le_refl _)
  go_wp2_with fail
  go_ret
  exact ⟨rfl, B6⟩
end Go.Proofs.Yteolobffmldfhaa
