/- The law FnExactEndsAt walked: it returns true. No condition. -/
import Derived.Test.YtogdmidldaeheaaTrips
import Derived.Test.YtogdmidldaeheaaTripCopy
import Derived.Deep.RegionHeld3
namespace Go.Proofs.Ytogdmidldaeheaa
open Go.RowKit Go.PlainAid
set_option maxRecDepth 100000
set_option linter.unusedVariables false
set_option maxHeartbeats 6400000 in
theorem walk_ExactEndsAt (v0 : Value) (v1 : Value) (w : World) (p0 : VNet w v0) (p1 : VTrip v1) : Calls Try.prog 20 #[v0, v1] w fun e w' => e = .returned (.bool true) ∧ Below w.heap.size w w' := by
  obtain ⟨⟨legs, off, ch⟩, ⟨hok, hoff, hch⟩, l, o, rfl, sl, so⟩ := p0
  simp only at hok hoff hch sl so
  obtain ⟨⟨tl, td⟩, ⟨htl, htd⟩, rfl⟩ := p1
  simp only at htl htd
  obtain ⟨A, c, rfl, -, -⟩ := sl.form
  obtain ⟨A', c', rfl, -, -⟩ := so.form
  go_enter Try.func20, Try.ntmps20
  go_wp2_with fail
  obtain ⟨W, hW⟩ : ∃ W, W = (w.alloc (.cells #[.slice A legs.length c, .slice A' off.length c', .int .i64 ch] 75)).alloc (.cells #[.int .i64 tl, .int .i64 td] 87) := ⟨_, rfl⟩
  rw [← hW]
  have a0 : W.cell? ⟨w.heap.size, 0, none⟩ = some (.slice A legs.length c) := by rw [hW]; simp [go_sem]
  have a1 : W.cell? ⟨w.heap.size, 1, none⟩ = some (.slice A' off.length c') := by rw [hW]; simp [go_sem]
  have a2 : W.cell? ⟨w.heap.size, 2, none⟩ = some (.int .i64 ch) := by rw [hW]; simp [go_sem]
  have t0 : W.cell? ⟨w.heap.size + 1, 0, none⟩ = some (.int .i64 tl) := by rw [hW]; simp [go_sem]
  have t1 : W.cell? ⟨w.heap.size + 1, 1, none⟩ = some (.int .i64 td) := by rw [hW]; simp [go_sem]
  have B0 : Below w.heap.size w W := by rw [hW]; go_grown
  clear hW
  refine (szNet_any legs off ch _ _ _ _ hok (sl.keep B0 (Nat.le_refl _)) (so.keep B0 (Nat.le_refl _)) (by omega) (by omega)).mono ?_
  rintro e w1 ⟨r, rfl, r1, r2, r3, b1⟩
  replace a0 := cell_keep b1 a0
  replace a1 := cell_keep b1 a1
  replace a2 := cell_keep b1 a2
  replace t0 := cell_keep b1 t0
  replace t1 := cell_keep b1 t1
  have B1 := chain B0 b1
  by_cases hr : r < 0
  · go_wp2_with fail
    go_ret
    exact ⟨rfl, B1⟩
  have hn : legs.length ≤ 1048576 := by have := (r3 (by omega)).1; omega
  have hm : off.length ≤ 1048576 := by have := (r3 (by omega)).2; omega
  go_wp2_with fail
  go_region_held3 (fun Q => Q.cell? ⟨w.heap.size, 0, none⟩ = some (.slice A legs.length c) ∧ Q.cell? ⟨w.heap.size, 1, none⟩ = some (.slice A' off.length c') ∧ Q.cell? ⟨w.heap.size, 2, none⟩ = some (.int .i64 ch) ∧ Q.cell? ⟨w.heap.size + 1, 0, none⟩ = some (.int .i64 tl) ∧ Q.cell? ⟨w.heap.size + 1, 1, none⟩ = some (.int .i64 td) ∧ Below w.heap.size w Q) (((try go_split_ands); refine ⟨?_, ?_, ?_, ?_, ?_, ?_⟩ <;> first | assumption | (apply cell_keep <;> assumption) | (apply slice_drew; assumption) | (apply slice_keep <;> assumption) | (apply Below.drew; assumption) | (apply chain' <;> assumption))) (first | (go_at_call 63; (try go_split_ands); refine (toNet_any legs off ch _ _ _ (sl.keep (by assumption) (Nat.le_refl _)) (so.keep (by assumption) (Nat.le_refl _)) hn hm).mono ?_; rintro e w' ⟨l2, o2, rfl, ol, oo, hb⟩; have sl2 := ol.slice Leg_len (by omega); have so2 := oo.slice vI_len (by omega)) | (go_at_call 69; refine (toTrip_any _ _ _).mono ?_; rintro e w' ⟨rfl, hb⟩; try (replace sl2 := slice_keep hb sl2); try (replace so2 := slice_keep hb so2)) | (go_at_call 73; (try go_split_ands); refine (endsAtS legs off ch tl td _ _ _ hok htl htd sl2 so2).mono ?_; rintro e w' ⟨rfl, hb⟩))
  (try go_split_ands)
  go_wp2_with fail
  refine (toNet_any legs off ch _ _ _ (sl.keep (by assumption) (Nat.le_refl _)) (so.keep (by assumption) (Nat.le_refl _)) hn hm).mono ?_
  rintro e w10 ⟨xl, xo, rfl, ol, oo, b10⟩
  have qa0 : w10.cell? ⟨w.heap.size, 0, none⟩ = some (.slice A legs.length c) := by apply cell_keep <;> assumption
  have qa1 : w10.cell? ⟨w.heap.size, 1, none⟩ = some (.slice A' off.length c') := by apply cell_keep <;> assumption
  have qa2 : w10.cell? ⟨w.heap.size, 2, none⟩ = some (.int .i64 ch) := by apply cell_keep <;> assumption
  have qt0 : w10.cell? ⟨w.heap.size + 1, 0, none⟩ = some (.int .i64 tl) := by apply cell_keep <;> assumption
  have qt1 : w10.cell? ⟨w.heap.size + 1, 1, none⟩ = some (.int .i64 td) := by apply cell_keep <;> assumption
  have B10 : Below w.heap.size w w10 := by apply chain' <;> assumption
  obtain ⟨Ax, cx, rfl, -, -⟩ := ol.form
  obtain ⟨Ay, cy, rfl, -, -⟩ := oo.form
  have xs1 := ol.slice Leg_len (by omega)
  have xs2 := oo.slice vI_len (by omega)
  go_wp2_with fail
  obtain ⟨X, hX⟩ : ∃ X, X = w10.alloc (.cells #[.slice Ax legs.length cx, .slice Ay off.length cy, .int .i64 ch] 80) := ⟨_, rfl⟩
  rw [← hX]
  have bX : Below w10.heap.size w10 X := by rw [hX]; go_grown
  have x0 : X.cell? ⟨w10.heap.size, 0, none⟩ = some (.slice Ax legs.length cx) := by rw [hX]; simp [go_sem]
  have x1 : X.cell? ⟨w10.heap.size, 1, none⟩ = some (.slice Ay off.length cy) := by rw [hX]; simp [go_sem]
  have x2 : X.cell? ⟨w10.heap.size, 2, none⟩ = some (.int .i64 ch) := by rw [hX]; simp [go_sem]
  clear hX
  replace qa0 := cell_keep bX qa0
  replace qa1 := cell_keep bX qa1
  replace qa2 := cell_keep bX qa2
  replace qt0 := cell_keep bX qt0
  replace qt1 := cell_keep bX qt1
  replace xs1 := xs1.keep bX (Nat.le_refl _)
  replace xs2 := xs2.keep bX (Nat.le_refl _)
  have B11 := chain B10 bX
  go_wp2_with fail
  go_region_held3 (fun Q => Q.cell? ⟨w.heap.size, 0, none⟩ = some (.slice A legs.length c) ∧ Q.cell? ⟨w.heap.size, 1, none⟩ = some (.slice A' off.length c') ∧ Q.cell? ⟨w.heap.size, 2, none⟩ = some (.int .i64 ch) ∧ Q.cell? ⟨w.heap.size + 1, 0, none⟩ = some (.int .i64 tl) ∧ Q.cell? ⟨w.heap.size + 1, 1, none⟩ = some (.int .i64 td) ∧ Q.cell? ⟨w10.heap.size, 0, none⟩ = some (.slice Ax legs.length cx) ∧ Q.cell? ⟨w10.heap.size, 1, none⟩ = some (.slice Ay off.length cy) ∧ Q.cell? ⟨w10.heap.size, 2, none⟩ = some (.int .i64 ch) ∧ SliceOf Q 6 LegD.vals (.slice Ax legs.length cx) legs ∧ SliceOf Q 1 vI (.slice Ay off.length cy) off ∧ Below w.heap.size w Q) (((try go_split_ands); refine ⟨?_, ?_, ?_, ?_, ?_, ?_, ?_, ?_, ?_, ?_, ?_⟩ <;> first | assumption | (apply cell_keep <;> assumption) | (apply slice_drew; assumption) | (apply slice_keep <;> assumption) | (apply Below.drew; assumption) | (apply chain' <;> assumption))) (first | (go_at_call 69; refine (toTrip_any _ _ _).mono ?_; rintro e w' ⟨rfl, hb⟩; try (replace sl2 := slice_keep hb sl2); try (replace so2 := slice_keep hb so2)) | (go_at_call 74; (try go_split_ands); refine (endsAtI legs off ch tl td _ _ _ hok htl htd (by first | assumption | (apply slice_keep <;> assumption)) (by first | assumption | (apply slice_keep <;> assumption))).mono ?_; rintro e w' ⟨rfl, hb⟩))
  (try go_split_ands)
  go_wp2_with fail
  go_region_held3 (fun Q => Q.cell? ⟨w.heap.size, 0, none⟩ = some (.slice A legs.length c) ∧ Q.cell? ⟨w.heap.size, 1, none⟩ = some (.slice A' off.length c') ∧ Q.cell? ⟨w.heap.size, 2, none⟩ = some (.int .i64 ch) ∧ Q.cell? ⟨w.heap.size + 1, 0, none⟩ = some (.int .i64 tl) ∧ Q.cell? ⟨w.heap.size + 1, 1, none⟩ = some (.int .i64 td) ∧ Q.cell? ⟨w10.heap.size, 0, none⟩ = some (.slice Ax legs.length cx) ∧ Q.cell? ⟨w10.heap.size, 1, none⟩ = some (.slice Ay off.length cy) ∧ Q.cell? ⟨w10.heap.size, 2, none⟩ = some (.int .i64 ch) ∧ SliceOf Q 6 LegD.vals (.slice Ax legs.length cx) legs ∧ SliceOf Q 1 vI (.slice Ay off.length cy) off ∧ Below w.heap.size w Q) (((try go_split_ands); refine ⟨?_, ?_, ?_, ?_, ?_, ?_, ?_, ?_, ?_, ?_, ?_⟩ <;> first | assumption | (apply cell_keep <;> assumption) | (apply slice_drew; assumption) | (apply slice_keep <;> assumption) | (apply Below.drew; assumption) | (apply chain' <;> assumption))) (first | (go_at_call 63; (try go_split_ands); refine (toNet_any legs off ch _ _ _ (sl.keep (by assumption) (Nat.le_refl _)) (so.keep (by assumption) (Nat.le_refl _)) hn hm).mono ?_; rintro e w' ⟨l2, o2, rfl, ol, oo, hb⟩; have sl2 := ol.slice Leg_len (by omega); have so2 := oo.slice vI_len (by omega)) | (go_at_call 65; (try go_split_ands); refine (eqNet_same legs off ch _ _ _ _ _ (by first | assumption | (apply slice_keep <;> assumption)) (by first | assumption | (apply slice_keep <;> assumption)) sl2 so2).mono ?_; rintro e w' ⟨rfl, hb⟩))
  (try go_split_ands)
  go_wp2_with fail
  go_ret
  exact ⟨rfl, by assumption⟩
end Go.Proofs.Ytogdmidldaeheaa
