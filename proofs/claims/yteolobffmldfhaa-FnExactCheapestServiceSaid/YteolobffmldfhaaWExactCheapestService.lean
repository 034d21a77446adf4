/- The law FnExactCheapestService walked: it returns true. No condition. -/
import Derived.Test.YteolobffmldfhaaCheap
import Derived.Test.YteolobffmldfhaaParcelCopy
import Derived.Test.YteolobffmldfhaaRecZone
import Derived.Test.YteolobffmldfhaaRecRate
import Derived.Deep.RegionHeld3
namespace Go.Proofs.Yteolobffmldfhaa
open Go.RowKit Go.PlainAid
set_option maxRecDepth 100000
set_option linter.unusedVariables false
set_option maxHeartbeats 6400000 in
theorem walk_ExactCheapestService (v0 : Value) (v1 : Value) (v2 : Value) (w : World) (p0 : VZones w v0) (p1 : VRates w v1) (p2 : VParcel w v2) : Calls Try.prog 13 #[v0, v1, v2] w fun e w' => e = .returned (.bool true) ∧ Below w.heap.size w w' := by
  obtain ⟨xs0, hok0, h0⟩ := p0
  obtain ⟨A0, c0, rfl, hl0, hm0⟩ := h0.form
  unfold maxLen at hm0
  obtain ⟨xs1, hok1, h1⟩ := p1
  obtain ⟨A1, c1, rfl, hl1, hm1⟩ := h1.form
  unfold maxLen at hm1
  obtain ⟨⟨⟨a, b, t⟩, f, wt, xs, vl⟩, ⟨⟨ha, hb, ht⟩, hf, hwt, hxs, hvl⟩, V, rfl, sl⟩ := p2
  simp only at ha hb ht hf hwt hxs hvl sl ⊢
  obtain ⟨A, c, rfl, -, -⟩ := sl.form
  go_enter Try.func13, Try.ntmps13
  go_wp2_with fail
  obtain ⟨W, hW⟩ : ∃ W, W = w.alloc (.cells #[.int .i64 a, .int .i64 b, .string t, .string f, .int .i64 wt, .slice A xs.length c, .int .i64 vl] 36) := ⟨_, rfl⟩
  rw [← hW]
  have a0 : W.cell? ⟨w.heap.size, 0, none⟩ = some (.int .i64 a) := by rw [hW]; simp [go_sem]
  have a1 : W.cell? ⟨w.heap.size, 1, none⟩ = some (.int .i64 b) := by rw [hW]; simp [go_sem]
  have a2 : W.cell? ⟨w.heap.size, 2, none⟩ = some (.string t) := by rw [hW]; simp [go_sem]
  have a3 : W.cell? ⟨w.heap.size, 3, none⟩ = some (.string f) := by rw [hW]; simp [go_sem]
  have a4 : W.cell? ⟨w.heap.size, 4, none⟩ = some (.int .i64 wt) := by rw [hW]; simp [go_sem]
  have a5 : W.cell? ⟨w.heap.size, 5, none⟩ = some (.slice A xs.length c) := by rw [hW]; simp [go_sem]
  have a6 : W.cell? ⟨w.heap.size, 6, none⟩ = some (.int .i64 vl) := by rw [hW]; simp [go_sem]
  have B0 : Below w.heap.size w W := by rw [hW]; go_grown
  clear hW
  refine (szZoneS_any xs0 _ _ _ hok0 (h0.keep B0 (Nat.le_refl _)) (by omega) (by omega)).mono ?_
  rintro e w1 ⟨r0, rfl, q0_, s0_, d0, b1⟩
  replace a0 := cell_keep b1 a0
  replace a1 := cell_keep b1 a1
  replace a2 := cell_keep b1 a2
  replace a3 := cell_keep b1 a3
  replace a4 := cell_keep b1 a4
  replace a5 := cell_keep b1 a5
  replace a6 := cell_keep b1 a6
  have B1 := chain B0 b1
  by_cases hr0 : r0 < 0
  · go_wp2_with fail
    go_ret
    exact ⟨rfl, B1⟩
  have hn0 : xs0.length ≤ 1048576 := by have := d0 (by omega); omega
  go_wp2_with fail
  refine (szRateS_any xs1 _ _ _ hok1 (h1.keep B1 (Nat.le_refl _)) (by omega) (by omega)).mono ?_
  rintro e w2 ⟨r1, rfl, q1_, s1_, d1, b2⟩
  replace a0 := cell_keep b2 a0
  replace a1 := cell_keep b2 a1
  replace a2 := cell_keep b2 a2
  replace a3 := cell_keep b2 a3
  replace a4 := cell_keep b2 a4
  replace a5 := cell_keep b2 a5
  replace a6 := cell_keep b2 a6
  have B2 := chain B1 b2
  by_cases hr1 : r1 < 0
  · go_wp2_with fail
    go_ret
    exact ⟨rfl, B2⟩
  have hn1 : xs1.length ≤ 1048576 := by have := d1 (by omega); omega
  go_wp2_with fail
  refine (szParcel_any a b t f wt xs vl _ _ _ ht hf (sl.keep B2 (Nat.le_refl _)) (by omega) (by omega)).mono ?_
  rintro e w3 ⟨r, rfl, q_, s_, d_, b3⟩
  replace a0 := cell_keep b3 a0
  replace a1 := cell_keep b3 a1
  replace a2 := cell_keep b3 a2
  replace a3 := cell_keep b3 a3
  replace a4 := cell_keep b3 a4
  replace a5 := cell_keep b3 a5
  replace a6 := cell_keep b3 a6
  have B3 := chain B2 b3
  by_cases hr : r < 0
  · go_wp2_with fail
    go_ret
    exact ⟨rfl, B3⟩
  have hn : xs.length ≤ 1048576 := by have := d_ (by omega); omega
  go_wp2_with fail
  go_region_held3 (fun Q => Q.cell? ⟨w.heap.size, 0, none⟩ = some (.int .i64 a) ∧ Q.cell? ⟨w.heap.size, 1, none⟩ = some (.int .i64 b) ∧ Q.cell? ⟨w.heap.size, 2, none⟩ = some (.string t) ∧ Q.cell? ⟨w.heap.size, 3, none⟩ = some (.string f) ∧ Q.cell? ⟨w.heap.size, 4, none⟩ = some (.int .i64 wt) ∧ Q.cell? ⟨w.heap.size, 5, none⟩ = some (.slice A xs.length c) ∧ Q.cell? ⟨w.heap.size, 6, none⟩ = some (.int .i64 vl) ∧ Below w.heap.size w Q) (((try go_split_ands); refine ⟨?_, ?_, ?_, ?_, ?_, ?_, ?_, ?_⟩ <;> first | assumption | (apply cell_keep <;> assumption) | (apply slice_drew; assumption) | (apply slice_keep <;> assumption) | (apply Below.drew; assumption) | (apply chain' <;> assumption))) ((first | (go_at_call 44; (try go_split_ands); refine (toZoneS_any xs0 _ _ (h0.keep (by assumption) (Nat.le_refl _)) hn0).mono ?_; rintro e w' ⟨u0, rfl, o0, hb'⟩; have z0s := o0.slice Zone_len (by omega); try (replace z1s := slice_keep hb' z1s); try (replace s1 := slice_keep hb' s1)) | (go_at_call 45; (try go_split_ands); refine (toRateS_any xs1 _ _ (h1.keep (by assumption) (Nat.le_refl _)) hn1).mono ?_; rintro e w' ⟨u1, rfl, o1, hb'⟩; have z1s := o1.slice Rate_len (by omega); try (replace z0s := slice_keep hb' z0s); try (replace s1 := slice_keep hb' s1)) | (go_at_call 30; (try go_split_ands); refine (toParcel_any a b t f wt xs vl _ _ (sl.keep (by assumption) (Nat.le_refl _)) hn).mono ?_; rintro e w' ⟨Vs1, rfl, s1, hb'⟩; try (replace z0s := slice_keep hb' z0s); try (replace z1s := slice_keep hb' z1s)) | (go_at_call 41; (try go_split_ands); refine (cheapS xs0 xs1 a b t f wt xs vl _ _ _ _ hok0 hok1 ha ht hf z0s z1s s1).mono ?_; rintro e w' ⟨rfl, hb'⟩)))
  (try go_split_ands)
  go_wp2_with fail
  refine (toZoneS_any xs0 _ _ (h0.keep (by assumption) (Nat.le_refl _)) hn0).mono ?_
  rintro e w21 ⟨y0, rfl, e0, b21⟩
  have x0s := e0.slice Zone_len (by omega)
  have qa0 : w21.cell? ⟨w.heap.size, 0, none⟩ = some (.int .i64 a) := by apply cell_keep <;> assumption
  have qa1 : w21.cell? ⟨w.heap.size, 1, none⟩ = some (.int .i64 b) := by apply cell_keep <;> assumption
  have qa2 : w21.cell? ⟨w.heap.size, 2, none⟩ = some (.string t) := by apply cell_keep <;> assumption
  have qa3 : w21.cell? ⟨w.heap.size, 3, none⟩ = some (.string f) := by apply cell_keep <;> assumption
  have qa4 : w21.cell? ⟨w.heap.size, 4, none⟩ = some (.int .i64 wt) := by apply cell_keep <;> assumption
  have qa5 : w21.cell? ⟨w.heap.size, 5, none⟩ = some (.slice A xs.length c) := by apply cell_keep <;> assumption
  have qa6 : w21.cell? ⟨w.heap.size, 6, none⟩ = some (.int .i64 vl) := by apply cell_keep <;> assumption
  have B21 : Below w.heap.size w w21 := by apply chain' <;> assumption
  go_wp2_with fail
  refine (toRateS_any xs1 _ _ (h1.keep B21 (Nat.le_refl _)) hn1).mono ?_
  rintro e w22 ⟨y1, rfl, e1, b22⟩
  have x1s := e1.slice Rate_len (by omega)
  replace qa0 := cell_keep b22 qa0
  replace qa1 := cell_keep b22 qa1
  replace qa2 := cell_keep b22 qa2
  replace qa3 := cell_keep b22 qa3
  replace qa4 := cell_keep b22 qa4
  replace qa5 := cell_keep b22 qa5
  replace qa6 := cell_keep b22 qa6
  replace x0s := x0s.keep b22 (Nat.le_refl _)
  have B22 := chain B21 b22
  go_wp2_with fail
  refine (toParcel_any a b t f wt xs vl _ _ (sl.keep B22 (Nat.le_refl _)) hn).mono ?_
  rintro e w23 ⟨V2, rfl, s2, b23⟩
  replace qa0 := cell_keep b23 qa0
  replace qa1 := cell_keep b23 qa1
  replace qa2 := cell_keep b23 qa2
  replace qa3 := cell_keep b23 qa3
  replace qa4 := cell_keep b23 qa4
  replace qa5 := cell_keep b23 qa5
  replace qa6 := cell_keep b23 qa6
  replace x0s := x0s.keep b23 (Nat.le_refl _)
  replace x1s := x1s.keep b23 (Nat.le_refl _)
  have B23 := chain B22 b23
  obtain ⟨Ax, cx, rfl, -, -⟩ := s2.form
  obtain ⟨Ax0, cx0, rfl, -, -⟩ := x0s.form
  obtain ⟨Ax1, cx1, rfl, -, -⟩ := x1s.form
  go_wp2_with fail
  obtain ⟨X, hX⟩ : ∃ X, X = w23.alloc (.cells #[.int .i64 a, .int .i64 b, .string t, .string f, .int .i64 wt, .slice Ax xs.length cx, .int .i64 vl] 41) := ⟨_, rfl⟩
  rw [← hX]
  have bX : Below w23.heap.size w23 X := by rw [hX]; go_grown
  have x0 : X.cell? ⟨w23.heap.size, 0, none⟩ = some (.int .i64 a) := by rw [hX]; simp [go_sem]
  have x1 : X.cell? ⟨w23.heap.size, 1, none⟩ = some (.int .i64 b) := by rw [hX]; simp [go_sem]
  have x2 : X.cell? ⟨w23.heap.size, 2, none⟩ = some (.string t) := by rw [hX]; simp [go_sem]
  have x3 : X.cell? ⟨w23.heap.size, 3, none⟩ = some (.string f) := by rw [hX]; simp [go_sem]
  have x4 : X.cell? ⟨w23.heap.size, 4, none⟩ = some (.int .i64 wt) := by rw [hX]; simp [go_sem]
  have x5 : X.cell? ⟨w23.heap.size, 5, none⟩ = some (.slice Ax xs.length cx) := by rw [hX]; simp [go_sem]
  have x6 : X.cell? ⟨w23.heap.size, 6, none⟩ = some (.int .i64 vl) := by rw [hX]; simp [go_sem]
  clear hX
  replace qa0 := cell_keep bX qa0
  replace qa1 := cell_keep bX qa1
  replace qa2 := cell_keep bX qa2
  replace qa3 := cell_keep bX qa3
  replace qa4 := cell_keep bX qa4
  replace qa5 := cell_keep bX qa5
  replace qa6 := cell_keep bX qa6
  replace x0s := x0s.keep bX (Nat.le_refl _)
  replace x1s := x1s.keep bX (Nat.le_refl _)
  replace s2 := s2.keep bX (Nat.le_refl _)
  have B24 := chain B23 bX
  refine (cheapI xs0 xs1 a b t f wt xs vl _ _ _ _ hok0 hok1 ha ht hf x0s x1s s2).mono ?_
  rintro e w25 ⟨rfl, b25⟩
  replace qa0 := cell_keep b25 qa0
  replace qa1 := cell_keep b25 qa1
  replace qa2 := cell_keep b25 qa2
  replace qa3 := cell_keep b25 qa3
  replace qa4 := cell_keep b25 qa4
  replace qa5 := cell_keep b25 qa5
  replace qa6 := cell_keep b25 qa6
  replace x0 := cell_keep b25 x0
  replace x1 := cell_keep b25 x1
  replace x2 := cell_keep b25 x2
  replace x3 := cell_keep b25 x3
  replace x4 := cell_keep b25 x4
  replace x5 := cell_keep b25 x5
  replace x6 := cell_keep b25 x6
  replace x0s := x0s.keep b25 (Nat.le_refl _)
  replace x1s := x1s.keep b25 (Nat.le_refl _)
  replace s2 := s2.keep b25 (Nat.le_refl _)
  have B25 := chain B24 b25
  go_wp2_with fail
  refine (toZoneS_any xs0 _ _ (h0.keep B25 (Nat.le_refl _)) hn0).mono ?_
  rintro e w26 ⟨g0, rfl, m0, b26⟩
  replace qa0 := cell_keep b26 qa0
  replace qa1 := cell_keep b26 qa1
  replace qa2 := cell_keep b26 qa2
  replace qa3 := cell_keep b26 qa3
  replace qa4 := cell_keep b26 qa4
  replace qa5 := cell_keep b26 qa5
  replace qa6 := cell_keep b26 qa6
  replace x0 := cell_keep b26 x0
  replace x1 := cell_keep b26 x1
  replace x2 := cell_keep b26 x2
  replace x3 := cell_keep b26 x3
  replace x4 := cell_keep b26 x4
  replace x5 := cell_keep b26 x5
  replace x6 := cell_keep b26 x6
  replace x0s := x0s.keep b26 (Nat.le_refl _)
  replace x1s := x1s.keep b26 (Nat.le_refl _)
  replace s2 := s2.keep b26 (Nat.le_refl _)
  have B26 := chain B25 b26
  have n0s := m0.slice Zone_len (by omega)
  go_wp2_with fail
  refine (eqZoneS_same xs0 _ _ _ x0s n0s).mono ?_
  rintro e w27 ⟨rfl, b27⟩
  replace qa0 := cell_keep b27 qa0
  replace qa1 := cell_keep b27 qa1
  replace qa2 := cell_keep b27 qa2
  replace qa3 := cell_keep b27 qa3
  replace qa4 := cell_keep b27 qa4
  replace qa5 := cell_keep b27 qa5
  replace qa6 := cell_keep b27 qa6
  replace x0 := cell_keep b27 x0
  replace x1 := cell_keep b27 x1
  replace x2 := cell_keep b27 x2
  replace x3 := cell_keep b27 x3
  replace x4 := cell_keep b27 x4
  replace x5 := cell_keep b27 x5
  replace x6 := cell_keep b27 x6
  replace x0s := x0s.keep b27 (Nat.le_refl _)
  replace x1s := x1s.keep b27 (Nat.le_refl _)
  replace s2 := s2.keep b27 (Nat.le_refl _)
  have B27 := chain B26 b27
  go_wp2_with fail
  refine (toRateS_any xs1 _ _ (h1.keep B27 (Nat.le_refl _)) hn1).mono ?_
  rintro e w28 ⟨g1, rfl, m1, b28⟩
  replace qa0 := cell_keep b28 qa0
  replace qa1 := cell_keep b28 qa1
  replace qa2 := cell_keep b28 qa2
  replace qa3 := cell_keep b28 qa3
  replace qa4 := cell_keep b28 qa4
  replace qa5 := cell_keep b28 qa5
  replace qa6 := cell_keep b28 qa6
  replace x0 := cell_keep b28 x0
  replace x1 := cell_keep b28 x1
  replace x2 := cell_keep b28 x2
  replace x3 := cell_keep b28 x3
  replace x4 := cell_keep b28 x4
  replace x5 := cell_keep b28 x5
  replace x6 := cell_keep b28 x6
  replace x0s := x0s.keep b28 (Nat.le_refl _)
  replace x1s := x1s.keep b28 (Nat.le_refl _)
  replace s2 := s2.keep b28 (Nat.le_refl _)
  have B28 := chain B27 b28
  have n1s := m1.slice Rate_len (by omega)
  go_wp2_with fail
  refine (eqRateS_same xs1 _ _ _ x1s n1s).mono ?_
  rintro e w29 ⟨rfl, b29⟩
  replace qa0 := cell_keep b29 qa0
  replace qa1 := cell_keep b29 qa1
  replace qa2 := cell_keep b29 qa2
  replace qa3 := cell_keep b29 qa3
  replace qa4 := cell_keep b29 qa4
  replace qa5 := cell_keep b29 qa5
  replace qa6 := cell_keep b29 qa6
  replace x0 := cell_keep b29 x0
  replace x1 := cell_keep b29 x1
  replace x2 := cell_keep b29 x2
  replace x3 := cell_keep b29 x3
  replace x4 := cell_keep b29 x4
  replace x5 := cell_keep b29 x5
  replace x6 := cell_keep b29 x6
  replace x0s := x0s.keep b29 (Nat.le_refl _)
  replace x1s := x1s.keep b29 (Nat.le_refl _)
  replace s2 := s2.keep b29 (Nat.le_refl _)
  have B29 := chain B28 b29
  go_wp2_with fail
  go_region_held3 (fun Q => Q.cell? ⟨w.heap.size, 0, none⟩ = some (.int .i64 a) ∧ Q.cell? ⟨w.heap.size, 1, none⟩ = some (.int .i64 b) ∧ Q.cell? ⟨w.heap.size, 2, none⟩ = some (.string t) ∧ Q.cell? ⟨w.heap.size, 3, none⟩ = some (.string f) ∧ Q.cell? ⟨w.heap.size, 4, none⟩ = some (.int .i64 wt) ∧ Q.cell? ⟨w.heap.size, 5, none⟩ = some (.slice A xs.length c) ∧ Q.cell? ⟨w.heap.size, 6, none⟩ = some (.int .i64 vl) ∧ Q.cell? ⟨w23.heap.size, 0, none⟩ = some (.int .i64 a) ∧ Q.cell? ⟨w23.heap.size, 1, none⟩ = some (.int .i64 b) ∧ Q.cell? ⟨w23.heap.size, 2, none⟩ = some (.string t) ∧ Q.cell? ⟨w23.heap.size, 3, none⟩ = some (.string f) ∧ Q.cell? ⟨w23.heap.size, 4, none⟩ = some (.int .i64 wt) ∧ Q.cell? ⟨w23.heap.size, 5, none⟩ = some (.slice Ax xs.length cx) ∧ Q.cell? ⟨w23.heap.size, 6, none⟩ = some (.int .i64 vl) ∧ SliceOf Q 1 vI (.slice Ax xs.length cx) xs ∧ Below w.heap.size w Q) (((try go_split_ands); refine ⟨?_, ?_, ?_, ?_, ?_, ?_, ?_, ?_, ?_, ?_, ?_, ?_, ?_, ?_, ?_, ?_⟩ <;> first | assumption | (apply cell_keep <;> assumption) | (apply slice_drew; assumption) | (apply slice_keep <;> assumption) | (apply Below.drew; assumption) | (apply chain' <;> assumption))) ((first | (go_at_call 30; (try go_split_ands); refine (toParcel_any a b t f wt xs vl _ _ (sl.keep (by assumption) (Nat.le_refl _)) hn).mono ?_; rintro e w' ⟨Vs4, rfl, s4, hb'⟩; try (replace z0s := slice_keep hb' z0s); try (replace z1s := slice_keep hb' z1s)) | (go_at_call 32; (try go_split_ands); refine (eqParcel_same a b t f wt xs vl _ _ _ (by first | assumption | (apply slice_keep <;> assumption)) s4).mono ?_; rintro e w' ⟨rfl, hb'⟩)))
  (try go_split_ands)
  go_wp2_with fail
  go_ret
  exact ⟨rfl, by assumption⟩
end Go.Proofs.Yteolobffmldfhaa
