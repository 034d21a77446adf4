/- The law FnExactFitsIn walked: it returns true. No condition. -/
import Derived.Test.YteolobffmldfhaaGirth
import Derived.Test.YteolobffmldfhaaInts
namespace Go.Proofs.Yteolobffmldfhaa
open Go.RowKit Go.PlainAid
set_option maxRecDepth 100000
set_option linter.unusedVariables false
set_option maxHeartbeats 1600000 in
theorem walk_ExactFitsIn (v0 : Value) (v1 : Value) (w : World) (p0 : VInts w v0) (p1 : VInts w v1) : Calls Try.prog 5 #[v0, v1] w fun e w' => e = .returned (.bool true) ∧ Below w.heap.size w w' := by
  obtain ⟨xs0, hok0, h0⟩ := p0
  obtain ⟨A0, c0, rfl, hl0, hm0⟩ := h0.form
  unfold maxLen at hm0
  obtain ⟨xs1, hok1, h1⟩ := p1
  obtain ⟨A1, c1, rfl, hl1, hm1⟩ := h1.form
  unfold maxLen at hm1
  by_cases hb0 : (1048576 : Int) < (xs0.length : Int)
  · go_enter Try.func5, Try.ntmps5
    go_wp2
    go_ret
    exact ⟨rfl, Below.refl _ _⟩
  have hn0 : xs0.length ≤ 1048576 := by omega
  by_cases hb1 : (1048576 : Int) < (xs1.length : Int)
  · go_enter Try.func5, Try.ntmps5
    go_wp2
    go_ret
    exact ⟨rfl, Below.refl _ _⟩
  have hn1 : xs1.length ≤ 1048576 := by omega
  go_enter Try.func5, Try.ntmps5
  go_wp2_with fail
  refine (toIntS_any xs0 _ _ h0 hn0).mono ?_
  rintro e w1 ⟨u0, rfl, ou0, b1⟩
  have B1 : Below w.heap.size w w1 := b1
  have su0 := ou0.slice vI_len (by omega)
  go_wp2_with fail
  refine (toIntS_any xs1 _ _ (h1.keep B1 (Nat.le_refl _)) hn1).mono ?_
  rintro e w2 ⟨u1, rfl, ou1, b2⟩
  have B2 : Below w.heap.size w w2 := chain B1 b2
  replace su0 := su0.keep b2 (Nat.le_refl _)
  have su1 := ou1.slice vI_len (by omega)
  go_wp2_with fail
  refine (fitsS xs0 xs1 _ _ _ su0 su1).mono ?_
  rintro e w3 ⟨rfl, b3⟩
  have B3 : Below w.heap.size w w3 := chain B2 b3
  replace su0 := su0.keep b3 (Nat.le_refl _)
  replace su1 := su1.keep b3 (Nat.le_refl _)
  go_wp2_with fail
  refine (toIntS_any xs0 _ _ (h0.keep B3 (Nat.le_refl _)) hn0).mono ?_
  rintro e w4 ⟨x0, rfl, ox0, b4⟩
  have B4 : Below w.heap.size w w4 := chain B3 b4
  have sx0 := ox0.slice vI_len (by omega)
  go_wp2_with fail
  refine (toIntS_any xs1 _ _ (h1.keep B4 (Nat.le_refl _)) hn1).mono ?_
  rintro e w5 ⟨x1, rfl, ox1, b5⟩
  have B5 : Below w.heap.size w w5 := chain B4 b5
  replace sx0 := sx0.keep b5 (Nat.le_refl _)
  have sx1 := ox1.slice vI_len (by omega)
  go_wp2_with fail
  refine (fitsI xs0 xs1 _ _ _ sx0 sx1).mono ?_
  rintro e w6 ⟨rfl, b6⟩
  have B6 : Below w.heap.size w w6 := chain B5 b6
  replace sx0 := sx0.keep b6 (Nat.le_refl _)
  replace sx1 := sx1.keep b6 (Nat.le_refl _)
  go_wp2_with fail
  refine (toIntS_any xs0 _ _ (h0.keep B6 (Nat.le_refl _)) hn0).mono ?_
  rintro e w7 ⟨y0, rfl, oy0, b7⟩
  have B7 : Below w.heap.size w w7 := chain B6 b7
  replace sx0 := sx0.keep b7 (Nat.le_refl _)
  replace sx1 := sx1.keep b7 (Nat.le_refl _)
  have sy0 := oy0.slice vI_len (by omega)
  go_wp2_with fail
  refine (eqIntS_any xs0 xs0 _ _ _ sx0 sy0).mono ?_
  rintro e w8 ⟨rfl, b8⟩
  have B8 : Below w.heap.size w w8 := chain B7 b8
  replace sx0 := sx0.keep b8 (Nat.le_refl _)
  replace sx1 := sx1.keep b8 (Nat.le_refl _)
  replace sy0 := sy0.keep b8 (Nat.le_refl _)
  go_wp2_with fail
  refine (toIntS_any xs1 _ _ (h1.keep B8 (Nat.le_refl _)) hn1).mono ?_
  rintro e w9 ⟨y1, rfl, oy1, b9⟩
  have B9 : Below w.heap.size w w9 := chain B8 b9
  replace sx0 := sx0.keep b9 (Nat.le_refl _)
  replace sx1 := sx1.keep b9 (Nat.le_refl _)
  have sy1 := oy1.slice vI_len (by omega)
  go_wp2_with fail
  refine (eqIntS_any xs1 xs1 _ _ _ sx1 sy1).mono ?_
  rintro e w10 ⟨rfl, b10⟩
  have B10 : Below w.heap.size w w10 := chain B9 b10
  replace sx0 := sx0.keep b10 (Nat.le_refl _)
  replace sx1 := sx1.keep b10 (Nat.le_refl _)
  replace sy1 := sy1.keep b10 (Nat.le_refl _)
  go_wp2_with fail
  go_ret
  exact ⟨rfl, B10⟩
end Go.Proofs.Yteolobffmldfhaa
