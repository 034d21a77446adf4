/- The law FnExactLastTrip walked: it returns true. No condition. -/
import Derived.Test.YtogdmidldaeheaaNextLastI
import Derived.Test.YtogdmidldaeheaaTripCopy
import Derived.Deep.RegionHeld3
namespace Go.Proofs.Ytogdmidldaeheaa
open Go.RowKit Go.PlainAid
set_option maxRecDepth 100000
set_option linter.unusedVariables false
set_option maxHeartbeats 6400000 in
theorem walk_ExactLastTrip (v0 : Value) (v1 : Value) (v2 : Value) (w : World) (p0 : VNet w v0) (p1 : VInt v1) (p2 : VInt v2) : Calls Try.prog 23 #[v0, v1, v2] w fun e w' => e = .returned (.bool true) ∧ Below w.heap.size w w' := by
  obtain ⟨⟨legs, off, ch⟩, ⟨hok, hoff, hch⟩, l, o, rfl, sl, so⟩ := p0
  simp only at hok hoff hch sl so
  obtain ⟨i1, rfl, hi1⟩ := p1
  obtain ⟨i2, rfl, hi2⟩ := p2
  obtain ⟨A, c, rfl, -, -⟩ := sl.form
  obtain ⟨A', c', rfl, -, -⟩ := so.form
  go_enter Try.func23, Try.ntmps23
  go_wp2_with fail
  obtain ⟨W, hW⟩ : ∃ W, W = w.alloc (.cells #[.slice A legs.length c, .slice A' off.length c', .int .i64 ch] 75) := ⟨_, rfl⟩
  rw [← hW]
  have a0 : W.cell? ⟨w.heap.size, 0, none⟩ = some (.slice A legs.length c) := by rw [hW]; simp [go_sem]
  have a1 : W.cell? ⟨w.heap.size, 1, none⟩ = some (.slice A' off.length c') := by rw [hW]; simp [go_sem]
  have a2 : W.cell? ⟨w.heap.size, 2, none⟩ = some (.int .i64 ch) := by rw [hW]; simp [go_sem]
  have B0 : Below w.heap.size w W := by rw [hW]; go_grown
  clear hW
  refine (szNet_any legs off ch _ _ _ _ hok (sl.keep B0 (Nat.le_refl _)) (so.keep B0 (Nat.le_refl _)) (by omega) (by omega)).mono ?_
  rintro e w1 ⟨r, rfl, r1, r2, r3, b1⟩
  replace a0 := cell_keep b1 a0
  replace a1 := cell_keep b1 a1
  replace a2 := cell_keep b1 a2
  have B1 := chain B0 b1
  by_cases hr : r < 0
  · go_wp2_with fail
    go_ret
    exact ⟨rfl, B1⟩
  have hn : legs.length ≤ 1048576 := by have := (r3 (by omega)).1; omega
  have hm : off.length ≤ 1048576 := by have := (r3 (by omega)).2; omega
  go_wp2_with fail
  refine (toNet_any legs off ch _ _ _ (sl.keep B1 (Nat.le_refl _)) (so.keep B1 (Nat.le_refl _)) hn hm).mono ?_
  rintro e w2 ⟨l2, o2, rfl, ol, oo, b2⟩
  replace a0 := cell_keep b2 a0
  replace a1 := cell_keep b2 a1
  replace a2 := cell_keep b2 a2
  have B2 := chain B1 b2
  have sl2 := ol.slice Leg_len (by omega)
  have so2 := oo.slice vI_len (by omega)
  go_wp2_with fail
  refine (lastTripS legs off ch i1 i2 _ _ _ hok hi1 hi2 sl2 so2).mono ?_
  rintro e w3 ⟨rfl, b3⟩
  replace a0 := cell_keep b3 a0
  replace a1 := cell_keep b3 a1
  replace a2 := cell_keep b3 a2
  have B3 := chain B2 b3
  have n0 : w.heap.size < w3.heap.size := cell_lt a0
  have m0 : ¬ w.heap.size = w3.heap.size := by omega
  have VB : Below w3.heap.size w3 (w3.alloc (.cells #[.int .i64 (lastL legs off ch i1 i2), .int .i64 (lastE legs off ch i1 i2)] 89)) := by go_grown
  replace a0 := cell_keep VB a0
  replace a1 := cell_keep VB a1
  replace a2 := cell_keep VB a2
  go_wp2_with fail
  obtain ⟨Y, hY⟩ : ∃ Y, Y = w3.alloc (.cells #[.int .i64 (lastL legs off ch i1 i2), .int .i64 (lastE legs off ch i1 i2)] 89) := ⟨_, rfl⟩
  rw [← hY] at VB a0 a1 a2 ⊢
  have t0 : Y.cell? ⟨w3.heap.size, 0, none⟩ = some (.int .i64 (lastL legs off ch i1 i2)) := by rw [hY]; simp [go_sem]
  have t1 : Y.cell? ⟨w3.heap.size, 1, none⟩ = some (.int .i64 (lastE legs off ch i1 i2)) := by rw [hY]; simp [go_sem]
  clear hY
  have B4 := chain B3 VB
  clear VB n0 m0
  refine (toNet_any legs off ch _ _ _ (sl.keep B4 (Nat.le_refl _)) (so.keep B4 (Nat.le_refl _)) hn hm).mono ?_
  rintro e w5 ⟨xl, xo, rfl, ol, oo, b5⟩
  replace a0 := cell_keep b5 a0
  replace a1 := cell_keep b5 a1
  replace a2 := cell_keep b5 a2
  replace t0 := cell_keep b5 t0
  replace t1 := cell_keep b5 t1
  have B5 := chain B4 b5
  obtain ⟨Ax, cx, rfl, -, -⟩ := ol.form
  obtain ⟨Ay, cy, rfl, -, -⟩ := oo.form
  have xs1 := ol.slice Leg_len (by omega)
  have xs2 := oo.slice vI_len (by omega)
  go_wp2_with fail
  obtain ⟨X, hX⟩ : ∃ X, X = w5.alloc (.cells #[.slice Ax legs.length cx, .slice Ay off.length cy, .int .i64 ch] 80) := ⟨_, rfl⟩
  rw [← hX]
  have bX : Below w5.heap.size w5 X := by rw [hX]; go_grown
  have x0 : X.cell? ⟨w5.heap.size, 0, none⟩ = some (.slice Ax legs.length cx) := by rw [hX]; simp [go_sem]
  have x1 : X.cell? ⟨w5.heap.size, 1, none⟩ = some (.slice Ay off.length cy) := by rw [hX]; simp [go_sem]
  have x2 : X.cell? ⟨w5.heap.size, 2, none⟩ = some (.int .i64 ch) := by rw [hX]; simp [go_sem]
  clear hX
  replace a0 := cell_keep bX a0
  replace a1 := cell_keep bX a1
  replace a2 := cell_keep bX a2
  replace t0 := cell_keep bX t0
  replace t1 := cell_keep bX t1
  replace xs1 := xs1.keep bX (Nat.le_refl _)
  replace xs2 := xs2.keep bX (Nat.le_refl _)
  have B6 := chain B5 bX
  refine (lastTripI legs off ch i1 i2 _ _ _ hok hi1 hi2 xs1 xs2).mono ?_
  rintro e w7 ⟨rfl, b7⟩
  replace a0 := cell_keep b7 a0
  replace a1 := cell_keep b7 a1
  replace a2 := cell_keep b7 a2
  replace t0 := cell_keep b7 t0
  replace t1 := cell_keep b7 t1
  replace x0 := cell_keep b7 x0
  replace x1 := cell_keep b7 x1
  replace x2 := cell_keep b7 x2
  replace xs1 := xs1.keep b7 (Nat.le_refl _)
  replace xs2 := xs2.keep b7 (Nat.le_refl _)
  have B7 := chain B6 b7
  have n0 : w3.heap.size < w7.heap.size := cell_lt t0
  have m0 : ¬ w3.heap.size = w7.heap.size := by omega
  have VB : Below w7.heap.size w7 (w7.alloc (.cells #[.int .i64 (lastL legs off ch i1 i2), .int .i64 (lastE legs off ch i1 i2)] 89)) := by go_grown
  replace a0 := cell_keep VB a0
  replace a1 := cell_keep VB a1
  replace a2 := cell_keep VB a2
  replace t0 := cell_keep VB t0
  replace t1 := cell_keep VB t1
  replace x0 := cell_keep VB x0
  replace x1 := cell_keep VB x1
  replace x2 := cell_keep VB x2
  go_wp2_with fail
  obtain ⟨Z, hZ⟩ : ∃ Z, Z = w7.alloc (.cells #[.int .i64 (lastL legs off ch i1 i2), .int .i64 (lastE legs off ch i1 i2)] 89) := ⟨_, rfl⟩
  rw [← hZ] at VB a0 a1 a2 t0 t1 x0 x1 x2 ⊢
  replace xs1 := xs1.keep VB (Nat.le_refl _)
  replace xs2 := xs2.keep VB (Nat.le_refl _)
  clear hZ
  have B8 := chain B7 VB
  clear VB n0 m0
  refine (eqTrip_same _ _ _).mono ?_
  rintro e w9 ⟨rfl, b9⟩
  replace a0 := cell_keep b9 a0
  replace a1 := cell_keep b9 a1
  replace a2 := cell_keep b9 a2
  replace t0 := cell_keep b9 t0
  replace t1 := cell_keep b9 t1
  replace x0 := cell_keep b9 x0
  replace x1 := cell_keep b9 x1
  replace x2 := cell_keep b9 x2
  replace xs1 := xs1.keep b9 (Nat.le_refl _)
  replace xs2 := xs2.keep b9 (Nat.le_refl _)
  have B9 := chain B8 b9
  go_wp2_with fail
  go_region_held3 (fun Q => Q.cell? ⟨w.heap.size, 0, none⟩ = some (.slice A legs.length c) ∧ Q.cell? ⟨w.heap.size, 1, none⟩ = some (.slice A' off.length c') ∧ Q.cell? ⟨w.heap.size, 2, none⟩ = some (.int .i64 ch) ∧ Q.cell? ⟨w5.heap.size, 0, none⟩ = some (.slice Ax legs.length cx) ∧ Q.cell? ⟨w5.heap.size, 1, none⟩ = some (.slice Ay off.length cy) ∧ Q.cell? ⟨w5.heap.size, 2, none⟩ = some (.int .i64 ch) ∧ SliceOf Q 6 LegD.vals (.slice Ax legs.length cx) legs ∧ SliceOf Q 1 vI (.slice Ay off.length cy) off ∧ Below w.heap.size w Q) (((try go_split_ands); refine ⟨?_, ?_, ?_, ?_, ?_, ?_, ?_, ?_, ?_⟩ <;> first | assumption | (apply cell_keep <;> assumption) | (apply slice_drew; assumption) | (apply slice_keep <;> assumption) | (apply Below.drew; assumption) | (apply chain' <;> assumption))) (first | (go_at_call 63; (try go_split_ands); refine (toNet_any legs off ch _ _ _ (sl.keep (by assumption) (Nat.le_refl _)) (so.keep (by assumption) (Nat.le_refl _)) hn hm).mono ?_; rintro e w' ⟨l2, o2, rfl, ol, oo, hb⟩; have sl2 := ol.slice Leg_len (by omega); have so2 := oo.slice vI_len (by omega)) | (go_at_call 65; (try go_split_ands); refine (eqNet_same legs off ch _ _ _ _ _ (by first | assumption | (apply slice_keep <;> assumption)) (by first | assumption | (apply slice_keep <;> assumption)) sl2 so2).mono ?_; rintro e w' ⟨rfl, hb⟩))
  (try go_split_ands)
  go_wp2_with fail
  go_ret
  exact ⟨rfl, by assumption⟩
end Go.Proofs.Ytogdmidldaeheaa
