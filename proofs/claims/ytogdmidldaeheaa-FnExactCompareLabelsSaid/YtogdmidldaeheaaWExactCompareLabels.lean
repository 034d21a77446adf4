/- The law FnExactCompareLabels walked: it returns true. No condition. -/
import Derived.Test.YtogdmidldaeheaaCmpLab
import Derived.Test.YtogdmidldaeheaaLabel
import Derived.Deep.RegionHeld3
namespace Go.Proofs.Ytogdmidldaeheaa
open Go.RowKit Go.PlainAid
set_option maxRecDepth 100000
set_option linter.unusedVariables false
set_option maxHeartbeats 1600000 in
theorem walk_ExactCompareLabels (v0 v1 : Value) (w : World) (h0 : VLabel v0) (h1 : VLabel v1) : Calls Try.prog 10 #[v0, v1] w fun e w' => e = .returned (.bool true) ∧ Below w.heap.size w w' := by
  obtain ⟨⟨a, b, s⟩, ⟨ha, hb, hs⟩, rfl⟩ := h0
  obtain ⟨⟨a', b', s'⟩, ⟨ha', hb', hs'⟩, rfl⟩ := h1
  simp only at hs hs'
  go_enter Try.func10, Try.ntmps10
  go_wp2_with fail
  refine (szLabel_any _ _ _ _ _ (by omega) (by omega) hs).mono ?_
  rintro e w1 ⟨r, rfl, r1, r2, r3, b1⟩
  obtain ⟨c1, f1⟩ := bcell b1
  have z1 : w.heap.size + 1 < w1.heap.size := by have := b1.size; simp at this; omega
  have y1 : w.heap.size < w1.heap.size := by omega
  have B1 := chain (W := w) (by go_grown) b1
  by_cases hr : r < 0
  · go_wp2_with fail
    go_ret
    exact ⟨rfl, B1⟩
  go_wp2_with fail
  refine (szLabel_any _ _ _ _ _ (by omega) (by omega) hs').mono ?_
  rintro e w2 ⟨q, rfl, q1, q2, q3, b2⟩
  have B2 := chain B1 b2
  by_cases hq : q < 0
  · go_wp2_with fail
    go_ret
    exact ⟨rfl, B2⟩
  have d0 : w2.cell? ⟨w.heap.size, 0, none⟩ = some (.int .i64 a) := cell_keep b2 ((c1 _ _ (by simp; omega)).trans (by simp [go_sem]))
  have d1 : w2.cell? ⟨w.heap.size, 1, none⟩ = some (.int .i64 b) := cell_keep b2 ((c1 _ _ (by simp; omega)).trans (by simp [go_sem]))
  have d2 : w2.cell? ⟨w.heap.size, 2, none⟩ = some (.string s) := cell_keep b2 ((c1 _ _ (by simp; omega)).trans (by simp [go_sem]))
  have g0 : w2.cell? ⟨w.heap.size + 1, 0, none⟩ = some (.int .i64 a') := cell_keep b2 ((c1 _ _ (by simp)).trans (by simp [go_sem]))
  have g1 : w2.cell? ⟨w.heap.size + 1, 1, none⟩ = some (.int .i64 b') := cell_keep b2 ((c1 _ _ (by simp)).trans (by simp [go_sem]))
  have g2 : w2.cell? ⟨w.heap.size + 1, 2, none⟩ = some (.string s') := cell_keep b2 ((c1 _ _ (by simp)).trans (by simp [go_sem]))
  clear c1 f1 b1 b2 B1 z1 y1
  go_wp2_with fail
  go_region_held3 (fun W => W.cell? ⟨w.heap.size, 0, none⟩ = some (.int .i64 a) ∧ W.cell? ⟨w.heap.size, 1, none⟩ = some (.int .i64 b) ∧ W.cell? ⟨w.heap.size, 2, none⟩ = some (.string s) ∧ W.cell? ⟨w.heap.size + 1, 0, none⟩ = some (.int .i64 a') ∧ W.cell? ⟨w.heap.size + 1, 1, none⟩ = some (.int .i64 b') ∧ W.cell? ⟨w.heap.size + 1, 2, none⟩ = some (.string s') ∧ Below w.heap.size w W) (((try go_split_ands); refine ⟨?_, ?_, ?_, ?_, ?_, ?_, ?_⟩ <;> first | assumption | (apply cell_keep <;> assumption) | (apply Below.drew; assumption) | (apply chain' <;> assumption))) (first | (go_at_call 33; refine (toLabel_any _ _ _ _).mono ?_; rintro e w' ⟨rfl, hb⟩) | (go_at_call 43; refine (cmpLabS _ _ _ _ _ _ _).mono ?_; rintro e w' ⟨rfl, hb⟩))
  (try go_split_ands)
  go_wp2_with fail
  go_region_held3 (fun W => W.cell? ⟨w.heap.size, 0, none⟩ = some (.int .i64 a) ∧ W.cell? ⟨w.heap.size, 1, none⟩ = some (.int .i64 b) ∧ W.cell? ⟨w.heap.size, 2, none⟩ = some (.string s) ∧ W.cell? ⟨w.heap.size + 1, 0, none⟩ = some (.int .i64 a') ∧ W.cell? ⟨w.heap.size + 1, 1, none⟩ = some (.int .i64 b') ∧ W.cell? ⟨w.heap.size + 1, 2, none⟩ = some (.string s') ∧ Below w.heap.size w W) (((try go_split_ands); refine ⟨?_, ?_, ?_, ?_, ?_, ?_, ?_⟩ <;> first | assumption | (apply cell_keep <;> assumption) | (apply Below.drew; assumption) | (apply chain' <;> assumption))) (first | (go_at_call 33; refine (toLabel_any _ _ _ _).mono ?_; rintro e w' ⟨rfl, hb⟩) | (go_at_call 44; refine (cmpLabI _ _ _ _ _ _ _).mono ?_; rintro e w' ⟨rfl, hb⟩))
  (try go_split_ands)
  go_wp2_with fail
  go_ret
  exact ⟨rfl, by assumption⟩
end Go.Proofs.Ytogdmidldaeheaa
