/- The law FnExactAreRates walked: it returns true. No condition. -/
import Derived.Test.YtogdmidldaeheaaRates
import Derived.Test.YtogdmidldaeheaaInts
namespace Go.Proofs.Ytogdmidldaeheaa
open Go.RowKit Go.PlainAid
set_option maxRecDepth 100000
set_option linter.unusedVariables false
set_option maxHeartbeats 1600000 in
theorem walk_ExactAreRates (v0 : Value) (v1 : Value) (w : World) (p0 : VRates w v0) (p1 : VInt v1) : Calls Try.prog 13 #[v0, v1] w fun e w' => e = .returned (.bool true) ∧ Below w.heap.size w w' := by
  obtain ⟨xs0, hok0, h0⟩ := p0
  obtain ⟨A0, c0, rfl, hl0, hm0⟩ := h0.form
  unfold maxLen at hm0
  obtain ⟨i1, rfl, hi1⟩ := p1
  go_enter Try.func13, Try.ntmps13
  go_wp2_with fail
  refine (szRateS_any xs0 _ _ _ hok0 h0 (by omega) (by omega)).mono ?_
  rintro e w1 ⟨r0, rfl, a0, b0_, d0, b1⟩
  have B1 : Below w.heap.size w w1 := b1
  by_cases hr0 : r0 < 0
  · go_wp2_with fail
    go_ret
    exact ⟨rfl, B1⟩
  have hn0 : xs0.length ≤ 1048576 := by have := d0 (by omega); omega
  go_wp2_with fail
  refine (toRateS_any xs0 _ _ (h0.keep B1 (Nat.le_refl _)) hn0).mono ?_
  rintro e w2 ⟨u0, rfl, ou0, b2⟩
  have B2 : Below w.heap.size w w2 := chain B1 b2
  have su0 := ou0.slice Rate_len (by omega)
  go_wp2_with fail
  refine (areRatesS xs0 i1 _ _ hok0 hi1 su0).mono ?_
  rintro e w3 ⟨rfl, b3⟩
  have B3 : Below w.heap.size w w3 := chain B2 b3
  replace su0 := su0.keep b3 (Nat.le_refl _)
  go_wp2_with fail
  refine (toRateS_any xs0 _ _ (h0.keep B3 (Nat.le_refl _)) hn0).mono ?_
  rintro e w4 ⟨x0, rfl, ox0, b4⟩
  have B4 : Below w.heap.size w w4 := chain B3 b4
  have sx0 := ox0.slice Rate_len (by omega)
  go_wp2_with fail
  refine (areRatesI xs0 i1 _ _ hok0 hi1 sx0).mono ?_
  rintro e w5 ⟨rfl, b5⟩
  have B5 : Below w.heap.size w w5 := chain B4 b5
  replace sx0 := sx0.keep b5 (Nat.le_refl _)
  go_wp2_with fail
  refine (toRateS_any xs0 _ _ (h0.keep B5 (Nat.le_refl _)) hn0).mono ?_
  rintro e w6 ⟨y0, rfl, oy0, b6⟩
  have B6 : Below w.heap.size w w6 := chain B5 b6
  replace sx0 := sx0.keep b6 (Nat.le_refl _)
  have sy0 := oy0.slice Rate_len (by omega)
  go_wp2_with fail
  refine (eqRateS_same xs0 _ _ _ sx0 sy0).mono ?_
  rintro e w7 ⟨rfl, b7⟩
  have B7 : Below w.heap.size w w7 := chain B6 b7
  replace sx0 := sx0.keep b7 (Nat.le_refl _)
  replace sy0 := sy0.keep b7 (Nat.le_refl _)
  go_wp2_with fail
  go_ret
  exact ⟨rfl, B7⟩
end Go.Proofs.Ytogdmidldaeheaa
