/- The law FnExactVolumeOf walked: it returns true. No condition. -/
import Derived.Test.YtogdmidldaeheaaInts
namespace Go.Proofs.Ytogdmidldaeheaa
open Go.RowKit Go.PlainAid
set_option maxRecDepth 100000
theorem vI_len : ∀ x : Int, (vI x).length = 1 := fun _ => rfl
set_option maxHeartbeats 800000 in
theorem walk_ExactVolumeOf (v0 : Value) (w : World) (h0 : VInts w v0) : Calls Try.prog 9 #[v0] w fun e w' => e = .returned (.bool true) ∧ Below w.heap.size w w' := by
  obtain ⟨xs, hok, h⟩ := h0
  obtain ⟨A, c, rfl, hl, hm⟩ := h.form
  unfold maxLen at hm
  by_cases hb : (1048576 : Int) < (xs.length : Int)
  · go_enter Try.func9, Try.ntmps9
    go_wp2
    go_ret
    exact ⟨rfl, Below.refl _ _⟩
  · have hn : xs.length ≤ 1048576 := by omega
    go_enter Try.func9, Try.ntmps9
    go_wp2_with fail
    refine (toIntS_any xs _ _ h hn).mono ?_
    rintro e w1 ⟨v1, rfl, o1, b1⟩
    go_wp2_with fail
    refine (volumeS xs _ _ (o1.slice vI_len (by omega))).mono ?_
    rintro e w2 ⟨rfl, b2⟩
    have B2 := chain b1 b2
    go_wp2_with fail
    refine (toIntS_any xs _ _ (h.keep B2 (Nat.le_refl _)) hn).mono ?_
    rintro e w3 ⟨v3, rfl, o3, b3⟩
    have B3 := chain B2 b3
    go_wp2_with fail
    refine (volumeI xs _ _ (o3.slice vI_len (by omega))).mono ?_
    rintro e w4 ⟨rfl, b4⟩
    have B4 := chain B3 b4
    have s4 := (o3.slice vI_len (by omega)).keep b4 (Nat.le_refl _)
    go_wp2_with fail
    refine (toIntS_any xs _ _ (h.keep B4 (Nat.le_refl _)) hn).mono ?_
    rintro e w5 ⟨v5, rfl, o5, b5⟩
    have B5 := chain B4 b5
    go_wp2_with fail
    refine (eqIntS_any xs xs _ _ _ (s4.keep b5 (Nat.le_refl _)) (o5.slice vI_len (by omega))).mono ?_
    rintro e w6 ⟨rfl, b6⟩
    go_wp2_with fail
    go_ret
    exact ⟨rfl, chain B5 b6⟩
end Go.Proofs.Ytogdmidldaeheaa
