/- The draws of a label. No condition. -/
import Derived.Test.YteicnjemaemijaaGreatDoorDraws
namespace Go.Proofs.YteicnjemaemijaaGreatDoor
open Go.RowKit Go.PlainAid
set_option maxRecDepth 100000
set_option linter.unusedVariables false
def oddNums : List Int := [-1, 0, 1, 2, 255, 1440, 86400, 86401, 999999999, 1000000000, 1000000001, -1000000001, 9223372036854775807, -9223372036854775808]
theorem oddNums_ok : ∀ x ∈ oddNums, okI x := by unfold okI oddNums; decide
def serialNums : List Int := [0, 7, 999999999, 100000000, 123456789]
theorem serialNums_ok : ∀ x ∈ serialNums, okI x := by unfold okI serialNums; decide
def serviceNums : List Int := [0, 4, -1, 10]
theorem serviceNums_ok : ∀ x ∈ serviceNums, okI x := by unfold okI serviceNums; decide
def badPlaces : List ByteArray := [⟨#[]⟩, ⟨#[65, 77]⟩, ⟨#[65, 77, 83, 84]⟩, ⟨#[97, 77, 83]⟩, ⟨#[65, 49, 83]⟩]
set_option maxHeartbeats 1600000 in
theorem odd_any (C : Nat) (w : World) (hc : Cur C w) : Calls Tryz.prog 50 #[.pointer (some ⟨C, 0, none⟩)] w fun e w' => ∃ x : Int, e = .returned (.int .i64 x) ∧ okI x ∧ Cur C w' ∧ Saves C w w' := by
  go_enter Tryz.func50, Tryz.ntmps50
  go_wp2_with fail
  have hS := lit_slice (f := Value.int .i64) (vals := vI) (fun _ => rfl) oddNums 3 w #[.int .i64 (-1), .int .i64 (0), .int .i64 (1), .int .i64 (2), .int .i64 (255), .int .i64 (1440), .int .i64 (86400), .int .i64 (86401), .int .i64 (999999999), .int .i64 (1000000000), .int .i64 (1000000001), .int .i64 (-1000000001), .int .i64 (9223372036854775807), .int .i64 (-9223372036854775808)] rfl (by decide)
  have bS : Below w.heap.size w (w.alloc (.cells #[.int .i64 (-1), .int .i64 (0), .int .i64 (1), .int .i64 (2), .int .i64 (255), .int .i64 (1440), .int .i64 (86400), .int .i64 (86401), .int .i64 (999999999), .int .i64 (1000000000), .int .i64 (1000000001), .int .i64 (-1000000001), .int .i64 (9223372036854775807), .int .i64 (-9223372036854775808)] 3)) := by go_grown
  refine (int_any C oddNums _ _ (hc.keep bS) oddNums_ok (by decide) hS (fun b off n c hv => by have := hc.lt; injection hv with e1 e2 e3; injection e1 with e1; injection e1 with e1 e2; omega)).mono ?_
  rintro e w1 ⟨x, rfl, hx, c1, s1⟩
  go_wp2_with fail
  go_ret
  exact ⟨_, rfl, oddNums_ok _ hx, c1, (Saves.of_below bS).trans s1⟩
theorem Saves.setNew {C : Nat} {a w : World} (h : Saves C a w) {p : Addr} (hp : a.heap.size ≤ p.block) (u : Value) : Saves C a (w.setCell p u) :=
  ⟨h.os, h.tape, h.output, by have := h.size; simpa [World.setCell] using this, fun k hk hc => (Below.heap_setCell _ _ _ _ (by omega)).trans (h.block k hk hc)⟩
theorem Cur.setB {C : Nat} {w : World} (h : Cur C w) {p : Addr} (hp : C < p.block) (u : Value) : Cur C (w.setCell p u) := by
  obtain ⟨w0, A, cap, xs, i, x, sl, hC, b0, h0, h1, h2, hf, r⟩ := h
  have e : ∀ j, (w.setCell p u).cell? ⟨C, j, none⟩ = w.cell? ⟨C, j, none⟩ := fun j => World.cell?_of_block (w := w) (Below.heap_setCell _ _ _ _ (by simp only; omega))
  exact ⟨w0, A, cap, xs, i, x, sl, hC, b0.setCell (by omega) _, (e 0).trans h0, (e 1).trans h1, (e 2).trans h2, fun j => (World.frozen?_of_block (w := w) (Below.heap_setCell _ _ _ _ (by simp only; omega))).trans (hf j), r⟩
set_option maxHeartbeats 3200000 in
theorem label_any (C : Nat) (w : World) (hc : Cur C w) : Calls Tryz.prog 68 #[.pointer (some ⟨C, 0, none⟩)] w fun e w' => ∃ (a b : Int) (s : ByteArray), e = .returned (.agg #[.int .i64 a, .int .i64 b, .string s]) ∧ okI a ∧ okI b ∧ s ∈ placeNames ∧ Cur C w' ∧ Saves C w w' := by
  have lt := hc.lt
  go_enter Tryz.func68, Tryz.ntmps68
  go_wp2_with fail
  obtain ⟨W, hW⟩ : ∃ W, W = w.alloc (.cells #[.int .i64 0, .int .i64 0, .string ⟨#[]⟩] 23) := ⟨_, rfl⟩
  try rw [← hW]
  have z0 : W.cell? ⟨w.heap.size, 0, none⟩ = some (.int .i64 0) := by rw [hW]; simp [go_sem]
  have z1 : W.cell? ⟨w.heap.size, 1, none⟩ = some (.int .i64 0) := by rw [hW]; simp [go_sem]
  have z2 : W.cell? ⟨w.heap.size, 2, none⟩ = some (.string ⟨#[]⟩) := by rw [hW]; simp [go_sem]
  have fz : ∀ j, W.frozen? ⟨w.heap.size, j, none⟩ = false := fun j => by rw [hW]; simp [go_sem]
  have hs : W.heap.size = w.heap.size + 1 := by rw [hW]; simp
  have bW : Below w.heap.size w W := by rw [hW]; go_grown
  have S0 : Saves C w W := Saves.of_below bW
  have c0 := hc.keep bW
  clear hW
  refine (below_any C 3 _ c0 (by unfold okI; omega)).mono ?_
  rintro e w1 ⟨a, rfl, a0, a1, a2, c1, s1⟩
  have a3 := a2 (by omega)
  go_wp2_with fail
  refine (below_any C 1000 _ c1 (by unfold okI; omega)).mono ?_
  rintro e w2 ⟨b, rfl, b0, b1, b2, c2, s2⟩
  have b3 := b2 (by omega)
  go_wp2_with fail
  refine (place_any C _ c2).mono ?_
  rintro e w3 ⟨s, rfl, hs3, c3, s3⟩
  have s13 := (s1.trans s2).trans s3
  have S3 := S0.trans s13
  replace z0 := s13.at' z0 (by simp only; omega)
  replace z1 := s13.at' z1 (by simp only; omega)
  replace z2 := s13.at' z2 (by simp only; omega)
  replace fz : ∀ j, w3.frozen? ⟨w.heap.size, j, none⟩ = false := fun j => (s13.frozen (p := ⟨w.heap.size, j, none⟩) (by simp only; omega) (by simp only; omega)).trans (fz j)
  have n3 : w.heap.size < w3.heap.size := cell_lt z0
  go_wp2_with fail
  obtain ⟨V, hV⟩ : ∃ V, V = w3.alloc (.cells #[.int .i64 (1 + a), .int .i64 b, .string s] 23) := ⟨_, rfl⟩
  rw [← hV]
  have v0 : V.cell? ⟨w3.heap.size, 0, none⟩ = some (.int .i64 (1 + a)) := by rw [hV]; simp [go_sem]
  have v1 : V.cell? ⟨w3.heap.size, 1, none⟩ = some (.int .i64 b) := by rw [hV]; simp [go_sem]
  have v2 : V.cell? ⟨w3.heap.size, 2, none⟩ = some (.string s) := by rw [hV]; simp [go_sem]
  have fv : ∀ j, V.frozen? ⟨w3.heap.size, j, none⟩ = false := fun j => by rw [hV]; simp [go_sem]
  have bV : Below w3.heap.size w3 V := by rw [hV]; go_grown
  clear hV
  have lt3 := c3.lt
  have c4 := c3.keep bV
  have S4 := S3.trans (Saves.of_below bV)
  refine (once_any C 3 _ c4 (by unfold okI; omega)).mono ?_
  rintro e w5 ⟨t, rfl, c5, s5⟩
  have S5 := S4.trans s5
  have s35 := (Saves.of_below (C := C) bV).trans s5
  replace z0 := s35.at' z0 (by simp only; omega)
  replace z1 := s35.at' z1 (by simp only; omega)
  replace z2 := s35.at' z2 (by simp only; omega)
  replace fz : ∀ j, w5.frozen? ⟨w.heap.size, j, none⟩ = false := fun j => (s35.frozen (p := ⟨w.heap.size, j, none⟩) (by simp only; omega) (by simp only; omega)).trans (fz j)
  have n5 := cell_lt v0
  replace fv : ∀ j, w5.frozen? ⟨w3.heap.size, j, none⟩ = false := fun j => (s5.frozen (p := ⟨w3.heap.size, j, none⟩) n5 (by simp only; omega)).trans (fv j)
  replace v0 := s5.at' v0 (by simp only; omega)
  replace v1 := s5.at' v1 (by simp only; omega)
  replace v2 := s5.at' v2 (by simp only; omega)
  cases t
  · go_wp2_with fail
    refine bodyPost_ret (v := .agg #[.int .i64 (1 + a), .int .i64 b, .string s]) (by simp [results, Tryz.results68, go_sem, z0, z1, z2]) rfl ⟨_, _, _, rfl, by unfold okI; omega, by unfold okI; omega, hs3, ((c5.setB (by simp only; omega) _).setB (by simp only; omega) _).setB (by simp only; omega) _, ((S5.setNew (by simp only; omega) _).setNew (by simp only; omega) _).setNew (by simp only; omega) _⟩
  · go_wp2_with fail
    have hS := lit_slice (f := Value.int .i64) (vals := vI) (fun _ => rfl) serialNums 3 w5 #[.int .i64 (0), .int .i64 (7), .int .i64 (999999999), .int .i64 (100000000), .int .i64 (123456789)] rfl (by decide)
    have bS : Below w5.heap.size w5 (w5.alloc (.cells #[.int .i64 (0), .int .i64 (7), .int .i64 (999999999), .int .i64 (100000000), .int .i64 (123456789)] 3)) := by go_grown
    refine (int_any C serialNums _ _ (c5.keep bS) serialNums_ok (by decide) hS (fun b off n c hv => by have := c5.lt; injection hv with e1 e2 e3; injection e1 with e1; injection e1 with e1 e2; omega)).mono ?_
    rintro e w6 ⟨y, rfl, hy, c6, s6⟩
    have S6 := (S5.trans (Saves.of_below bS)).trans s6
    have s56 := (Saves.of_below (C := C) bS).trans s6
    have n6 := cell_lt v0
    replace z0 := s56.at' z0 (by simp only; omega)
    replace z1 := s56.at' z1 (by simp only; omega)
    replace z2 := s56.at' z2 (by simp only; omega)
    replace fz : ∀ j, w6.frozen? ⟨w.heap.size, j, none⟩ = false := fun j => (s56.frozen (p := ⟨w.heap.size, j, none⟩) (by simp only at n6 ⊢; omega) (by simp only; omega)).trans (fz j)
    replace fv : ∀ j, w6.frozen? ⟨w3.heap.size, j, none⟩ = false := fun j => (s56.frozen (p := ⟨w3.heap.size, j, none⟩) n6 (by simp only; omega)).trans (fv j)
    replace v0 := s56.at' v0 (by simp only; omega)
    replace v1 := s56.at' v1 (by simp only; omega)
    replace v2 := s56.at' v2 (by simp only; omega)
    have m0 : ¬ w.heap.size = w3.heap.size := by omega
    have m1 : ¬ w3.heap.size = w.heap.size := by omega
    have hw3 := S3.size
    go_wp2_with fail
    refine bodyPost_ret (v := .agg #[.int .i64 (1 + a), .int .i64 y, .string s]) (by simp [results, Tryz.results68, go_sem, z0, z1, z2]) rfl ⟨_, _, _, rfl, by unfold okI; omega, serialNums_ok _ hy, hs3, (((c6.setB (by simp only; omega) _).setB (by simp only; omega) _).setB (by simp only; omega) _).setB (by simp only; omega) _, (((S6.setNew (by simp only; omega) _).setNew (by simp only; omega) _).setNew (by simp only; omega) _).setNew (by simp only; omega) _⟩
def labelNames : List ByteArray := placeNames ++ badPlaces
theorem in_places {s : ByteArray} (h : s ∈ placeNames) : s ∈ labelNames := List.mem_append_left _ h
theorem in_bad {s : ByteArray} (h : s ∈ badPlaces) : s ∈ labelNames := List.mem_append_right _ h
set_option maxHeartbeats 6400000 in
theorem anyLabel_any (C : Nat) (w : World) (hc : Cur C w) : Calls Tryz.prog 53 #[.pointer (some ⟨C, 0, none⟩)] w fun e w' => ∃ (a b : Int) (s : ByteArray), e = .returned (.agg #[.int .i64 a, .int .i64 b, .string s]) ∧ okI a ∧ okI b ∧ s ∈ labelNames ∧ Cur C w' ∧ Saves C w w' := by
  have lt := hc.lt
  go_enter Tryz.func53, Tryz.ntmps53
  go_wp2_with fail
  obtain ⟨W, hW⟩ : ∃ W, W = w.alloc (.cells #[.int .i64 0, .int .i64 0, .string ⟨#[]⟩] 23) := ⟨_, rfl⟩
  try rw [← hW]
  have z0 : W.cell? ⟨w.heap.size, 0, none⟩ = some (.int .i64 0) := by rw [hW]; simp [go_sem]
  have z1 : W.cell? ⟨w.heap.size, 1, none⟩ = some (.int .i64 0) := by rw [hW]; simp [go_sem]
  have z2 : W.cell? ⟨w.heap.size, 2, none⟩ = some (.string ⟨#[]⟩) := by rw [hW]; simp [go_sem]
  have fz : ∀ j, W.frozen? ⟨w.heap.size, j, none⟩ = false := fun j => by rw [hW]; simp [go_sem]
  have bW : Below w.heap.size w W := by rw [hW]; go_grown
  have S0 : Saves C w W := Saves.of_below bW
  have c0 := hc.keep bW
  clear hW
  refine (label_any C _ c0).mono ?_
  rintro e w1 ⟨a, b, s, rfl, oa, ob, os, c1, s1⟩
  have S1 := S0.trans s1
  have hz := cell_lt z0
  replace fz : ∀ j, w1.frozen? ⟨w.heap.size, j, none⟩ = false := fun j => (s1.frozen (p := ⟨w.heap.size, j, none⟩) hz (by simp only; omega)).trans (fz j)
  replace z0 := s1.at' z0 (by simp only; omega)
  replace z1 := s1.at' z1 (by simp only; omega)
  replace z2 := s1.at' z2 (by simp only; omega)
  have n1 : w.heap.size < w1.heap.size := cell_lt z0
  have lt1 := c1.lt
  go_wp2_with fail
  obtain ⟨V, hV⟩ : ∃ V, V = w1.alloc (.cells #[.int .i64 a, .int .i64 b, .string s] 23) := ⟨_, rfl⟩
  rw [← hV]
  have v0 : V.cell? ⟨w1.heap.size, 0, none⟩ = some (.int .i64 a) := by rw [hV]; simp [go_sem]
  have v1 : V.cell? ⟨w1.heap.size, 1, none⟩ = some (.int .i64 b) := by rw [hV]; simp [go_sem]
  have v2 : V.cell? ⟨w1.heap.size, 2, none⟩ = some (.string s) := by rw [hV]; simp [go_sem]
  have fv : ∀ j, V.frozen? ⟨w1.heap.size, j, none⟩ = false := fun j => by rw [hV]; simp [go_sem]
  have bV : Below w1.heap.size w1 V := by rw [hV]; go_grown
  clear hV
  have c2 := c1.keep bV
  have S2 := S1.trans (Saves.of_below bV)
  replace fz : ∀ j, V.frozen? ⟨w.heap.size, j, none⟩ = false := fun j => (bV.frozen (p := ⟨w.heap.size, j, none⟩) n1).trans (fz j)
  replace z0 := cell_keep bV z0
  replace z1 := cell_keep bV z1
  replace z2 := cell_keep bV z2
  refine (below_any C 6 _ c2 (by unfold okI; omega)).mono ?_
  rintro e w3 ⟨k, rfl, k0, k1, k2, c3, s3⟩
  have S3 := S2.trans s3
  have k3 := k2 (by omega)
  have nnw3 := cell_lt v0
  replace fz : ∀ j, w3.frozen? ⟨w.heap.size, j, none⟩ = false := fun j => (s3.frozen (p := ⟨w.heap.size, j, none⟩) (by have := cell_lt z0; simpa using this) (by simp only; omega)).trans (fz j)
  replace fv : ∀ j, w3.frozen? ⟨w1.heap.size, j, none⟩ = false := fun j => (s3.frozen (p := ⟨w1.heap.size, j, none⟩) nnw3 (by simp only; omega)).trans (fv j)
  replace z0 := s3.at' z0 (by simp only; omega)
  replace z1 := s3.at' z1 (by simp only; omega)
  replace z2 := s3.at' z2 (by simp only; omega)
  replace v0 := s3.at' v0 (by simp only; omega)
  replace v1 := s3.at' v1 (by simp only; omega)
  replace v2 := s3.at' v2 (by simp only; omega)
  have m0 : ¬ w.heap.size = w1.heap.size := by omega
  have m1 : ¬ w1.heap.size = w.heap.size := by omega
  have hw1 := S1.size
  by_cases e0 : k = 0
  · subst e0
    go_wp2_with fail
    have hS := lit_slice (f := Value.int .i64) (vals := vI) (fun _ => rfl) serviceNums 3 w3 #[.int .i64 (0), .int .i64 (4), .int .i64 (-1), .int .i64 (10)] rfl (by decide)
    have bS : Below w3.heap.size w3 (w3.alloc (.cells #[.int .i64 (0), .int .i64 (4), .int .i64 (-1), .int .i64 (10)] 3)) := by go_grown
    refine (int_any C serviceNums _ _ (c3.keep bS) serviceNums_ok (by decide) hS (fun b off n c hv => by have := c3.lt; injection hv with e1 e2 e3; injection e1 with e1; injection e1 with e1 e2; omega)).mono ?_
    rintro e w4 ⟨y, rfl, hy, c4, s4⟩
    have s34 := (Saves.of_below (C := C) bS).trans s4
    have S4 := S3.trans s34
    have nnw4 := cell_lt v0
    replace fz : ∀ j, w4.frozen? ⟨w.heap.size, j, none⟩ = false := fun j => (s34.frozen (p := ⟨w.heap.size, j, none⟩) (by have := cell_lt z0; simpa using this) (by simp only; omega)).trans (fz j)
    replace fv : ∀ j, w4.frozen? ⟨w1.heap.size, j, none⟩ = false := fun j => (s34.frozen (p := ⟨w1.heap.size, j, none⟩) nnw4 (by simp only; omega)).trans (fv j)
    replace z0 := s34.at' z0 (by simp only; omega)
    replace z1 := s34.at' z1 (by simp only; omega)
    replace z2 := s34.at' z2 (by simp only; omega)
    replace v0 := s34.at' v0 (by simp only; omega)
    replace v1 := s34.at' v1 (by simp only; omega)
    replace v2 := s34.at' v2 (by simp only; omega)
    go_wp2_with fail
    refine bodyPost_ret (v := .agg #[.int .i64 y, .int .i64 b, .string s]) (by simp [results, Tryz.results53, go_sem, z0, z1, z2]) rfl ⟨_, _, _, rfl, serviceNums_ok _ hy, ob, in_places os, ((((c4.setB (by simp only; omega) _).setB (by simp only; omega) _).setB (by simp only; omega) _).setB (by simp only; omega) _), ((((S4.setNew (by simp only; omega) _).setNew (by simp only; omega) _).setNew (by simp only; omega) _).setNew (by simp only; omega) _)⟩
  by_cases e1 : k = 1
  · subst e1
    go_wp2_with fail
    refine (odd_any C _ c3).mono ?_
    rintro e w4 ⟨y, rfl, hy, c4, s4⟩
    have S4 := S3.trans s4
    have nnw4 := cell_lt v0
    replace fz : ∀ j, w4.frozen? ⟨w.heap.size, j, none⟩ = false := fun j => (s4.frozen (p := ⟨w.heap.size, j, none⟩) (by have := cell_lt z0; simpa using this) (by simp only; omega)).trans (fz j)
    replace fv : ∀ j, w4.frozen? ⟨w1.heap.size, j, none⟩ = false := fun j => (s4.frozen (p := ⟨w1.heap.size, j, none⟩) nnw4 (by simp only; omega)).trans (fv j)
    replace z0 := s4.at' z0 (by simp only; omega)
    replace z1 := s4.at' z1 (by simp only; omega)
    replace z2 := s4.at' z2 (by simp only; omega)
    replace v0 := s4.at' v0 (by simp only; omega)
    replace v1 := s4.at' v1 (by simp only; omega)
    replace v2 := s4.at' v2 (by simp only; omega)
    go_wp2_with fail
    refine bodyPost_ret (v := .agg #[.int .i64 a, .int .i64 y, .string s]) (by simp [results, Tryz.results53, go_sem, z0, z1, z2]) rfl ⟨_, _, _, rfl, oa, hy, in_places os, ((((c4.setB (by simp only; omega) _).setB (by simp only; omega) _).setB (by simp only; omega) _).setB (by simp only; omega) _), ((((S4.setNew (by simp only; omega) _).setNew (by simp only; omega) _).setNew (by simp only; omega) _).setNew (by simp only; omega) _)⟩
  by_cases e2 : k = 2
  · subst e2
    go_wp2_with fail
    have hS := lit_slice (f := Value.string) (vals := vS) (fun _ => rfl) badPlaces 9 w3 #[.string ⟨#[]⟩, .string ⟨#[65, 77]⟩, .string ⟨#[65, 77, 83, 84]⟩, .string ⟨#[97, 77, 83]⟩, .string ⟨#[65, 49, 83]⟩] rfl (by decide)
    have bS : Below w3.heap.size w3 (w3.alloc (.cells #[.string ⟨#[]⟩, .string ⟨#[65, 77]⟩, .string ⟨#[65, 77, 83, 84]⟩, .string ⟨#[97, 77, 83]⟩, .string ⟨#[65, 49, 83]⟩] 9)) := by go_grown
    refine (str_any C badPlaces _ _ (c3.keep bS) (by decide) hS (fun b off n c hv => by have := c3.lt; injection hv with e1 e2 e3; injection e1 with e1; injection e1 with e1 e2; omega)).mono ?_
    rintro e w4 ⟨y, rfl, hy, c4, s4⟩
    have s34 := (Saves.of_below (C := C) bS).trans s4
    have S4 := S3.trans s34
    have nnw4 := cell_lt v0
    replace fz : ∀ j, w4.frozen? ⟨w.heap.size, j, none⟩ = false := fun j => (s34.frozen (p := ⟨w.heap.size, j, none⟩) (by have := cell_lt z0; simpa using this) (by simp only; omega)).trans (fz j)
    replace fv : ∀ j, w4.frozen? ⟨w1.heap.size, j, none⟩ = false := fun j => (s34.frozen (p := ⟨w1.heap.size, j, none⟩) nnw4 (by simp only; omega)).trans (fv j)
    replace z0 := s34.at' z0 (by simp only; omega)
    replace z1 := s34.at' z1 (by simp only; omega)
    replace z2 := s34.at' z2 (by simp only; omega)
    replace v0 := s34.at' v0 (by simp only; omega)
    replace v1 := s34.at' v1 (by simp only; omega)
    replace v2 := s34.at' v2 (by simp only; omega)
    go_wp2_with fail
    refine bodyPost_ret (v := .agg #[.int .i64 a, .int .i64 b, .string y]) (by simp [results, Tryz.results53, go_sem, z0, z1, z2]) rfl ⟨_, _, _, rfl, oa, ob, in_bad hy, ((((c4.setB (by simp only; omega) _).setB (by simp only; omega) _).setB (by simp only; omega) _).setB (by simp only; omega) _), ((((S4.setNew (by simp only; omega) _).setNew (by simp only; omega) _).setNew (by simp only; omega) _).setNew (by simp only; omega) _)⟩
  go_wp2_with fail
  refine bodyPost_ret (v := .agg #[.int .i64 a, .int .i64 b, .string s]) (by simp [results, Tryz.results53, go_sem, z0, z1, z2]) rfl ⟨_, _, _, rfl, oa, ob, in_places os, (((c3.setB (by simp only; omega) _).setB (by simp only; omega) _).setB (by simp only; omega) _), (((S3.setNew (by simp only; omega) _).setNew (by simp only; omega) _).setNew (by simp only; omega) _)⟩
end Go.Proofs.YteicnjemaemijaaGreatDoor
