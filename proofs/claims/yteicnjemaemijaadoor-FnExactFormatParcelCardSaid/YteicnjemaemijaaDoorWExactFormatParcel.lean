/- The law FnExactFormatParcel walked: it returns true. No condition. -/
import Derived.Test.YteicnjemaemijaaDoorParFmt
import Derived.Test.YteicnjemaemijaaDoorParcelCopy
import Derived.Deep.RegionHeld3
namespace Go.Proofs.YteicnjemaemijaaDoor
open Go.RowKit Go.PlainAid
set_option maxRecDepth 100000
set_option linter.unusedVariables false
set_option maxHeartbeats 6400000 in
theorem walk_ExactFormatParcel (v0 : Value) (w : World) (p0 : VParcel w v0) (hT : Tabs w) : Calls Tryd.prog 3 #[v0] w fun e w' => e = .returned (.bool true) ∧ Below w.heap.size w w' := by
  obtain ⟨⟨⟨a, b, t⟩, f, wt, xs, vl⟩, ⟨⟨ha, hb, ht⟩, hf, hwt, hxs, hvl⟩, V, rfl, sl⟩ := p0
  simp only at ha hb ht hf hwt hxs hvl sl ⊢
  obtain ⟨A, c, rfl, -, -⟩ := sl.form
  go_enter Tryd.func3, Tryd.ntmps3
  go_wp2_with fail
  obtain ⟨W, hW⟩ : ∃ W, W = w.alloc (.cells #[.int .i64 a, .int .i64 b, .string t, .string f, .int .i64 wt, .slice A xs.length c, .int .i64 vl] 26) := ⟨_, rfl⟩
  rw [← hW]
  have a0 : W.cell? ⟨w.heap.size, 0, none⟩ = some (.int .i64 a) := by rw [hW]; simp [go_sem]
  have a1 : W.cell? ⟨w.heap.size, 1, none⟩ = some (.int .i64 b) := by rw [hW]; simp [go_sem]
  have a2 : W.cell? ⟨w.heap.size, 2, none⟩ = some (.string t) := by rw [hW]; simp [go_sem]
  have a3 : W.cell? ⟨w.heap.size, 3, none⟩ = some (.string f) := by rw [hW]; simp [go_sem]
  have a4 : W.cell? ⟨w.heap.size, 4, none⟩ = some (.int .i64 wt) := by rw [hW]; simp [go_sem]
  have a5 : W.cell? ⟨w.heap.size, 5, none⟩ = some (.slice A xs.length c) := by rw [hW]; simp [go_sem]
  have a6 : W.cell? ⟨w.heap.size, 6, none⟩ = some (.int .i64 vl) := by rw [hW]; simp [go_sem]
  have B0 : Below w.heap.size w W := by rw [hW]; go_grown
  clear hW
  refine (szParcel_any a b t f wt xs vl _ _ _ ht hf (sl.keep B0 (Nat.le_refl _)) (by omega) (by omega)).mono ?_
  rintro e w1 ⟨r, rfl, q_, s_, d_, b1⟩
  replace a0 := cell_keep b1 a0
  replace a1 := cell_keep b1 a1
  replace a2 := cell_keep b1 a2
  replace a3 := cell_keep b1 a3
  replace a4 := cell_keep b1 a4
  replace a5 := cell_keep b1 a5
  replace a6 := cell_keep b1 a6
  have B1 := chain B0 b1
  by_cases hr : r < 0
  · go_wp2_with fail
    go_ret
    exact ⟨rfl, B1⟩
  have hn : xs.length ≤ 1048576 := by have := d_ (by omega); omega
  go_wp2_with fail
  refine (toParcel_any a b t f wt xs vl _ _ (sl.keep B1 (Nat.le_refl _)) hn).mono ?_
  rintro e w2 ⟨V1, rfl, s1, b2⟩
  replace a0 := cell_keep b2 a0
  replace a1 := cell_keep b2 a1
  replace a2 := cell_keep b2 a2
  replace a3 := cell_keep b2 a3
  replace a4 := cell_keep b2 a4
  replace a5 := cell_keep b2 a5
  replace a6 := cell_keep b2 a6
  have B2 := chain B1 b2
  go_wp2_with fail
  refine (fparS a b t f wt xs vl _ _ ht hf s1 (hT.keep B2)).mono ?_
  rintro e w3 ⟨rfl, b3⟩
  replace a0 := cell_keep b3 a0
  replace a1 := cell_keep b3 a1
  replace a2 := cell_keep b3 a2
  replace a3 := cell_keep b3 a3
  replace a4 := cell_keep b3 a4
  replace a5 := cell_keep b3 a5
  replace a6 := cell_keep b3 a6
  have B3 := chain B2 b3
  go_wp2_with fail
  refine (toParcel_any a b t f wt xs vl _ _ (sl.keep B3 (Nat.le_refl _)) hn).mono ?_
  rintro e w4 ⟨V2, rfl, s2, b4⟩
  replace a0 := cell_keep b4 a0
  replace a1 := cell_keep b4 a1
  replace a2 := cell_keep b4 a2
  replace a3 := cell_keep b4 a3
  replace a4 := cell_keep b4 a4
  replace a5 := cell_keep b4 a5
  replace a6 := cell_keep b4 a6
  have B4 := chain B3 b4
  obtain ⟨Ax, cx, rfl, -, -⟩ := s2.form
  go_wp2_with fail
  obtain ⟨X, hX⟩ : ∃ X, X = w4.alloc (.cells #[.int .i64 a, .int .i64 b, .string t, .string f, .int .i64 wt, .slice Ax xs.length cx, .int .i64 vl] 31) := ⟨_, rfl⟩
  rw [← hX]
  have bX : Below w4.heap.size w4 X := by rw [hX]; go_grown
  have x0 : X.cell? ⟨w4.heap.size, 0, none⟩ = some (.int .i64 a) := by rw [hX]; simp [go_sem]
  have x1 : X.cell? ⟨w4.heap.size, 1, none⟩ = some (.int .i64 b) := by rw [hX]; simp [go_sem]
  have x2 : X.cell? ⟨w4.heap.size, 2, none⟩ = some (.string t) := by rw [hX]; simp [go_sem]
  have x3 : X.cell? ⟨w4.heap.size, 3, none⟩ = some (.string f) := by rw [hX]; simp [go_sem]
  have x4 : X.cell? ⟨w4.heap.size, 4, none⟩ = some (.int .i64 wt) := by rw [hX]; simp [go_sem]
  have x5 : X.cell? ⟨w4.heap.size, 5, none⟩ = some (.slice Ax xs.length cx) := by rw [hX]; simp [go_sem]
  have x6 : X.cell? ⟨w4.heap.size, 6, none⟩ = some (.int .i64 vl) := by rw [hX]; simp [go_sem]
  clear hX
  replace a0 := cell_keep bX a0
  replace a1 := cell_keep bX a1
  replace a2 := cell_keep bX a2
  replace a3 := cell_keep bX a3
  replace a4 := cell_keep bX a4
  replace a5 := cell_keep bX a5
  replace a6 := cell_keep bX a6
  replace s2 := s2.keep bX (Nat.le_refl _)
  have B5 := chain B4 bX
  refine (fparI a b t f wt xs vl _ _ ht hf s2 (hT.keep B5)).mono ?_
  rintro e w6 ⟨rfl, b6⟩
  replace a0 := cell_keep b6 a0
  replace a1 := cell_keep b6 a1
  replace a2 := cell_keep b6 a2
  replace a3 := cell_keep b6 a3
  replace a4 := cell_keep b6 a4
  replace a5 := cell_keep b6 a5
  replace a6 := cell_keep b6 a6
  replace x0 := cell_keep b6 x0
  replace x1 := cell_keep b6 x1
  replace x2 := cell_keep b6 x2
  replace x3 := cell_keep b6 x3
  replace x4 := cell_keep b6 x4
  replace x5 := cell_keep b6 x5
  replace x6 := cell_keep b6 x6
  replace s2 := s2.keep b6 (Nat.le_refl _)
  have B6 := chain B5 b6
  go_wp2_with fail
  go_region_held3 (fun Q => Q.cell? ⟨w.heap.size, 0, none⟩ = some (.int .i64 a) ∧ Q.cell? ⟨w.heap.size, 1, none⟩ = some (.int .i64 b) ∧ Q.cell? ⟨w.heap.size, 2, none⟩ = some (.string t) ∧ Q.cell? ⟨w.heap.size, 3, none⟩ = some (.string f) ∧ Q.cell? ⟨w.heap.size, 4, none⟩ = some (.int .i64 wt) ∧ Q.cell? ⟨w.heap.size, 5, none⟩ = some (.slice A xs.length c) ∧ Q.cell? ⟨w.heap.size, 6, none⟩ = some (.int .i64 vl) ∧ Q.cell? ⟨w4.heap.size, 0, none⟩ = some (.int .i64 a) ∧ Q.cell? ⟨w4.heap.size, 1, none⟩ = some (.int .i64 b) ∧ Q.cell? ⟨w4.heap.size, 2, none⟩ = some (.string t) ∧ Q.cell? ⟨w4.heap.size, 3, none⟩ = some (.string f) ∧ Q.cell? ⟨w4.heap.size, 4, none⟩ = some (.int .i64 wt) ∧ Q.cell? ⟨w4.heap.size, 5, none⟩ = some (.slice Ax xs.length cx) ∧ Q.cell? ⟨w4.heap.size, 6, none⟩ = some (.int .i64 vl) ∧ SliceOf Q 1 vI (.slice Ax xs.length cx) xs ∧ Below w.heap.size w Q) (((try go_split_ands); refine ⟨?_, ?_, ?_, ?_, ?_, ?_, ?_, ?_, ?_, ?_, ?_, ?_, ?_, ?_, ?_, ?_⟩ <;> first | assumption | (apply cell_keep <;> assumption) | (apply slice_drew; assumption) | (apply slice_keep <;> assumption) | (apply Below.drew; assumption) | (apply chain' <;> assumption))) ((first | (go_at_call 6; (try go_split_ands); refine (toParcel_any a b t f wt xs vl _ _ (sl.keep (by assumption) (Nat.le_refl _)) hn).mono ?_; rintro e w' ⟨Vs4, rfl, s4, hb'⟩; try (replace z0s := slice_keep hb' z0s); try (replace z1s := slice_keep hb' z1s)) | (go_at_call 8; (try go_split_ands); refine (eqParcel_same a b t f wt xs vl _ _ _ (by first | assumption | (apply slice_keep <;> assumption)) s4).mono ?_; rintro e w' ⟨rfl, hb'⟩)))
  (try go_split_ands)
  go_wp2_with fail
  go_ret
  exact ⟨rfl, by assumption⟩
end Go.Proofs.YteicnjemaemijaaDoor
