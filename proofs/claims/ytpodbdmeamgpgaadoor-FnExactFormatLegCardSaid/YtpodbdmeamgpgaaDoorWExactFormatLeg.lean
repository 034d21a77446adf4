/- The law FnExactFormatLeg walked: it returns true. No condition. -/
import Derived.Test.YtpodbdmeamgpgaaDoorLegs
namespace Go.Proofs.YtpodbdmeamgpgaaDoor
open Go.RowKit Go.PlainAid
set_option maxRecDepth 100000
set_option linter.unusedVariables false
set_option maxHeartbeats 800000 in
theorem walk_ExactFormatLeg (v0 : Value) (w : World) (h0 : VLeg v0) (ht : Tabs w) : Calls Tryd.prog 6 #[v0] w fun e w' => e = .returned (.bool true) ∧ Below w.heap.size w w' := by
  obtain ⟨⟨f, t, a, b, c, d⟩, ⟨hf, hg, ha, hb, hc, hd⟩, rfl⟩ := h0
  simp only at hf hg
  go_enter Tryd.func6, Tryd.ntmps6
  go_wp2_with fail
  refine (szLeg_any _ _ _ _ _ _ _ _ (by omega) (by omega) hf hg).mono ?_
  rintro e w1 ⟨r_, rfl, r1, r2, r3, b1⟩
  obtain ⟨c1, f1⟩ := bcell b1
  have z1 : w.heap.size < w1.heap.size := by have := b1.size; simp at this; omega
  have B1 := chain (W := w) (by go_grown) b1
  by_cases hr : r_ < 0
  · go_wp2_with fail
    go_ret
    exact ⟨rfl, B1⟩
  · go_wp2_with fail
    refine (toLeg_any _ _ _ _ _ _ _).mono ?_
    rintro e w2 ⟨rfl, b2⟩
    obtain ⟨c2, f2⟩ := bcell b2
    have z2 : w.heap.size < w2.heap.size := by have := b2.size; omega
    have B2 := chain (W := w) B1 b2
    go_wp2_with fail
    refine (legS f t a b c d _ hf hg (ht.keep B2)).mono ?_
    rintro e w3 ⟨r, rfl, H, hr3, b3⟩
    obtain ⟨c3, f3⟩ := bcell b3
    have z3 : w.heap.size < w3.heap.size := by have := b3.size; omega
    have B3 := chain (W := w) B2 b3
    go_wp2_with fail
    refine (toLeg_any _ _ _ _ _ _ _).mono ?_
    rintro e w4 ⟨rfl, b4⟩
    obtain ⟨c4, f4⟩ := bcell b4
    have B4 := chain (W := w) B3 b4
    go_wp2_with fail
    refine (legI f t a b c d _ hf hg (ht.keep B4)).mono ?_
    rintro e w5 ⟨q, rfl, Hq, hq, b5⟩
    have B5 := chain (W := w) B4 b5
    obtain rfl : q = r := same_text Hq H
    go_wp2_with fail
    go_ret
    exact ⟨rfl, B5⟩
end Go.Proofs.YtpodbdmeamgpgaaDoor
