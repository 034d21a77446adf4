/- The labels that the reference draws from a code. No condition. -/
import Derived.Test.YtpodbdmeamgpgaaDoorLabDraw
import Derived.Test.YtpodbdmeamgpgaaDoorBoxes
import Derived.RegionTactic
namespace Go.Proofs.YtpodbdmeamgpgaaDoor
open Go.RowKit Go.PlainAid
set_option maxRecDepth 100000
set_option linter.unusedVariables false
theorem Saves.bel {C : Nat} {a b : World} (h : Saves C a b) {w : World} (h0 : Below w.heap.size w a) (h1 : w.heap.size ≤ C) : Below w.heap.size w b := h0.trans (h.below h1 h0.size)
theorem big_any (xs : List Int) (v : Value) (w : World) (h : SliceOf w 1 vB v xs) : Calls Tryd.prog 38 #[v] w fun e w' => e = .returned (.bool (decide (4096 < (xs.length : Int)))) ∧ w = w' := by
  obtain ⟨A, c, rfl, hle, hm⟩ := h.form
  go_enter Tryd.func38, Tryd.ntmps38
  go_wp2
  go_ret
  exact ⟨rfl, rfl⟩
set_option maxHeartbeats 1600000 in
theorem drawFormat_any (xs : List Int) (v : Value) (w : World) (h : SliceOf w 1 vB v xs) : Calls Tryd.prog 42 #[v] w fun e w' => ∃ (a b : Int) (s : ByteArray), e = .returned (.agg #[.int .i64 a, .int .i64 b, .string s]) ∧ okI a ∧ okI b ∧ s ∈ labelNames ∧ Below w.heap.size w w' := by
  obtain ⟨A, c, rfl, hle, hm⟩ := h.form
  go_enter Tryd.func42, Tryd.ntmps42
  go_wp2_with fail
  obtain ⟨W, hW⟩ : ∃ W, W = w.alloc (.cells #[.int .i64 0, .int .i64 0, .string ⟨#[]⟩] 38) := ⟨_, rfl⟩
  try rw [← hW]
  have z0 : W.cell? ⟨w.heap.size, 0, none⟩ = some (.int .i64 0) := by rw [hW]; simp [go_sem]
  have z1 : W.cell? ⟨w.heap.size, 1, none⟩ = some (.int .i64 0) := by rw [hW]; simp [go_sem]
  have z2 : W.cell? ⟨w.heap.size, 2, none⟩ = some (.string ⟨#[]⟩) := by rw [hW]; simp [go_sem]
  have fz : ∀ j, W.frozen? ⟨w.heap.size, j, none⟩ = false := fun j => by rw [hW]; simp [go_sem]
  have bW : Below w.heap.size w W := by rw [hW]; go_grown
  have hs : W.heap.size = w.heap.size + 1 := by rw [hW]; simp
  clear hW
  refine (new_any xs _ _ (h.keep bW (Nat.le_refl _))).mono ?_
  rintro e w1 ⟨C, hC, rfl, c1, b1⟩
  have B1 := chain bW b1
  go_wp2_with fail
  refine (anyLabel_any C _ c1).mono ?_
  rintro e w2 ⟨a, b, s, rfl, oa, ob, os, c2, s2⟩
  have b2 := s2.bel b1 hC
  have B2 := chain bW b2
  have hz := cell_lt z0
  replace fz : ∀ j, w2.frozen? ⟨w.heap.size, j, none⟩ = false := fun j => (b2.frozen (p := ⟨w.heap.size, j, none⟩) hz).trans (fz j)
  replace z0 := cell_keep b2 z0
  replace z1 := cell_keep b2 z1
  replace z2 := cell_keep b2 z2
  go_wp2_with fail
  refine bodyPost_ret (v := .agg #[.int .i64 a, .int .i64 b, .string s]) (by simp [results, Tryd.results42, go_sem, z0, z1, z2]) rfl ⟨_, _, _, rfl, oa, ob, os, ((B2.setCell (by simp only; omega) _).setCell (by simp only; omega) _).setCell (by simp only; omega) _⟩
end Go.Proofs.YtpodbdmeamgpgaaDoor
