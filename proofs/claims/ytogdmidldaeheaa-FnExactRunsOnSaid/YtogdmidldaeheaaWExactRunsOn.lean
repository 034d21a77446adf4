/- The law FnExactRunsOn walked: it returns true. No condition. -/
import Derived.Test.YtogdmidldaeheaaTrips
import Derived.Test.YtogdmidldaeheaaNetCopy
import Derived.Deep.RegionHeld3
namespace Go.Proofs.Ytogdmidldaeheaa
open Go.RowKit Go.PlainAid
set_option maxRecDepth 100000
set_option linter.unusedVariables false
set_option maxHeartbeats 6400000 in
theorem walk_ExactRunsOn (v0 : Value) (v1 : Value) (v2 : Value) (w : World) (p0 : VNet w v0) (p1 : VInt v1) (p2 : VInt v2) : Calls Try.prog 17 #[v0, v1, v2] w fun e w' => e = .returned (.bool true) ∧ Below w.heap.size w w' := by
  obtain ⟨⟨legs, off, ch⟩, ⟨hok, hoff, hch⟩, l, o, rfl, sl, so⟩ := p0
  simp only at hok hoff hch sl so
  obtain ⟨i1, rfl, hi1⟩ := p1
  obtain ⟨i2, rfl, hi2⟩ := p2
  obtain ⟨A, c, rfl, -, -⟩ := sl.form
  obtain ⟨A', c', rfl, -, -⟩ := so.form
  go_enter Try.func17, Try.ntmps17
  go_wp2_with fail
  obtain ⟨W, hW⟩ : ∃ W, W = w.alloc (.cells #[.slice A legs.length c, .slice A' off.length c', .int .i64 ch] 75) := ⟨_, rfl⟩
  rw [← hW]
  have a0 : W.cell? ⟨w.heap.size, 0, none⟩ = some (.slice A legs.length c) := by rw [hW]; simp [go_sem]
  have a1 : W.cell? ⟨w.heap.size, 1, none⟩ = some (.slice A' off.length c') := by rw [hW]; simp [go_sem]
  have a2 : W.cell? ⟨w.heap.size, 2, none⟩ = some (.int .i64 ch) := by rw [hW]; simp [go_sem]
  have B0 : Below w.heap.size w W := by rw [hW]; go_grown
  clear hW
  refine (szNet_any legs off ch _ _ _ _ hok (sl.keep B0 (Nat.le_refl _)) (so.keep B0 (Nat.le_refl _)) (by omega) (by omega)).mono ?_
  rintro e w1 ⟨r, rfl, r1, r2, r3, b1⟩
  replace a0 := cell_keep b1 a0
  replace a1 := cell_keep b1 a1
  replace a2 := cell_keep b1 a2
  have B1 := chain B0 b1
  by_cases hr : r < 0
  · go_wp2_with fail
    go_ret
    exact ⟨rfl, B1⟩
  have hn : legs.length ≤ 1048576 := by have := (r3 (by omega)).1; omega
  have hm : off.length ≤ 1048576 := by have := (r3 (by omega)).2; omega
  go_wp2_with fail
  refine (toNet_any legs off ch _ _ _ (sl.keep B1 (Nat.le_refl _)) (so.keep B1 (Nat.le_refl _)) hn hm).mono ?_
  rintro e w2 ⟨l2, o2, rfl, ol, oo, b2⟩
  replace a0 := cell_keep b2 a0
  replace a1 := cell_keep b2 a1
  replace a2 := cell_keep b2 a2
  have B2 := chain B1 b2
  have sl2 := ol.slice Leg_len (by omega)
  have so2 := oo.slice vI_len (by omega)
  go_wp2_with fail
  refine (runsOnS legs off ch i1 i2 _ _ _ hok hi1 hi2 sl2 so2).mono ?_
  rintro e w3 ⟨rfl, b3⟩
  replace a0 := cell_keep b3 a0
  replace a1 := cell_keep b3 a1
  replace a2 := cell_keep b3 a2
  have B3 := chain B2 b3
  go_wp2_with fail
  refine (toNet_any legs off ch _ _ _ (sl.keep B3 (Nat.le_refl _)) (so.keep B3 (Nat.le_refl _)) hn hm).mono ?_
  rintro e w4 ⟨xl, xo, rfl, ol, oo, b4⟩
  replace a0 := cell_keep b4 a0
  replace a1 := cell_keep b4 a1
  replace a2 := cell_keep b4 a2
  have B4 := chain B3 b4
  obtain ⟨Ax, cx, rfl, -, -⟩ := ol.form
  obtain ⟨Ay, cy, rfl, -, -⟩ := oo.form
  have xs1 := ol.slice Leg_len (by omega)
  have xs2 := oo.slice vI_len (by omega)
  go_wp2_with fail
  obtain ⟨X, hX⟩ : ∃ X, X = w4.alloc (.cells #[.slice Ax legs.length cx, .slice Ay off.length cy, .int .i64 ch] 80) := ⟨_, rfl⟩
  rw [← hX]
  have bX : Below w4.heap.size w4 X := by rw [hX]; go_grown
  have x0 : X.cell? ⟨w4.heap.size, 0, none⟩ = some (.slice Ax legs.length cx) := by rw [hX]; simp [go_sem]
  have x1 : X.cell? ⟨w4.heap.size, 1, none⟩ = some (.slice Ay off.length cy) := by rw [hX]; simp [go_sem]
  have x2 : X.cell? ⟨w4.heap.size, 2, none⟩ = some (.int .i64 ch) := by rw [hX]; simp [go_sem]
  clear hX
  replace a0 := cell_keep bX a0
  replace a1 := cell_keep bX a1
  replace a2 := cell_keep bX a2
  replace xs1 := xs1.keep bX (Nat.le_refl _)
  replace xs2 := xs2.keep bX (Nat.le_refl _)
  have B5 := chain B4 bX
  refine (runsOnI legs off ch i1 i2 _ _ _ hok hi1 hi2 xs1 xs2).mono ?_
  rintro e w6 ⟨rfl, b6⟩
  replace a0 := cell_keep b6 a0
  replace a1 := cell_keep b6 a1
  replace a2 := cell_keep b6 a2
  replace x0 := cell_keep b6 x0
  replace x1 := cell_keep b6 x1
  replace x2 := cell_keep b6 x2
  replace xs1 := xs1.keep b6 (Nat.le_refl _)
  replace xs2 := xs2.keep b6 (Nat.le_refl _)
  have B6 := chain B5 b6
  go_wp2_with fail
  go_region_held3 (fun Q => Q.cell? ⟨w.heap.size, 0, none⟩ = some (.slice A legs.length c) ∧ Q.cell? ⟨w.heap.size, 1, none⟩ = some (.slice A' off.length c') ∧ Q.cell? ⟨w.heap.size, 2, none⟩ = some (.int .i64 ch) ∧ Q.cell? ⟨w4.heap.size, 0, none⟩ = some (.slice Ax legs.length cx) ∧ Q.cell? ⟨w4.heap.size, 1, none⟩ = some (.slice Ay off.length cy) ∧ Q.cell? ⟨w4.heap.size, 2, none⟩ = some (.int .i64 ch) ∧ SliceOf Q 6 LegD.vals (.slice Ax legs.length cx) legs ∧ SliceOf Q 1 vI (.slice Ay off.length cy) off ∧ Below w.heap.size w Q) (((try go_split_ands); refine ⟨?_, ?_, ?_, ?_, ?_, ?_, ?_, ?_, ?_⟩ <;> first | assumption | (apply cell_keep <;> assumption) | (apply slice_drew; assumption) | (apply slice_keep <;> assumption) | (apply Below.drew; assumption) | (apply chain' <;> assumption))) (first | (go_at_call 63; (try go_split_ands); refine (toNet_any legs off ch _ _ _ (sl.keep (by assumption) (Nat.le_refl _)) (so.keep (by assumption) (Nat.le_refl _)) hn hm).mono ?_; rintro e w' ⟨l2, o2, rfl, ol, oo, hb⟩; have sl2 := ol.slice Leg_len (by omega); have so2 := oo.slice vI_len (by omega)) | (go_at_call 65; (try go_split_ands); refine (eqNet_same legs off ch _ _ _ _ _ (by first | assumption | (apply slice_keep <;> assumption)) (by first | assumption | (apply slice_keep <;> assumption)) sl2 so2).mono ?_; rintro e w' ⟨rfl, hb⟩))
  (try go_split_ands)
  go_wp2_with fail
  go_ret
  exact ⟨rfl, by assumption⟩
end Go.Proofs.Ytogdmidldaeheaa
