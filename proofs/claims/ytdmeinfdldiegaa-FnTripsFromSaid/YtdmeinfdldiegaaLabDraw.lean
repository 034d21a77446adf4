/- The draws of a label. No condition. -/
import Derived.Test.YtdmeinfdldiegaaDraws
namespace Go.Proofs.Ytdmeinfdldiegaa
open Go.RowKit Go.PlainAid
set_option maxRecDepth 100000
set_option linter.unusedVariables false
def oddNums : List Int := [-1, 0, 1, 2, 255, 1440, 86400, 86401, 999999999, 1000000000, 1000000001, -1000000001, 9223372036854775807, -9223372036854775808]
theorem oddNums_ok : ∀ x ∈ oddNums, okI x := by unfold okI oddNums; decide
def serialNums : List Int := [0, 7, 999999999, 100000000, 123456789]
theorem serialNums_ok : ∀ x ∈ serialNums, okI x := by unfold okI serialNums; decide
def serviceNums : List Int := [0, 4, -1, 10]
theorem serviceNums_ok : ∀ x ∈ serviceNums, okI x := by unfold okI serviceNums; decide
def badPlaces : List ByteArray := [⟨#[]⟩, ⟨#[65, 77]⟩, ⟨#[65, 77, 83, 84]⟩, ⟨#[97, 77, 83]⟩, ⟨#[65, 49, 83]⟩]
set_option maxHeartbeats 1600000 in
theorem odd_any (C : Nat) (w : World) (hc : Cur C w) : Calls Try.prog 61 #[.pointer (some ⟨C, 0, none⟩)] w fun e w' => ∃ x : Int, e = .returned (.int .i64 x) ∧ okI x ∧ Cur C w' ∧ Saves C w w' := by
  go_enter Try.func61, Try.ntmps61
  go_wp2_with fail
  have hS := lit_slice (f := Value.int .i64) (vals := vI) (fun _ => rfl) oddNums 3 w #[.int .i64 (-1), .int .i64 (0), .int .i64 (1), .int .i64 (2), .int .i64 (255), .int .i64 (1440), .int .i64 (86400), .int .i64 (86401), .int .i64 (999999999), .int .i64 (1000000000), .int .i64 (1000000001), .int .i64 (-1000000001), .int .i64 (9223372036854775807), .int .i64 (-9223372036854775808)] rfl (by decide)
  have bS : Below w.heap.size w (w.alloc (.cells #[.int .i64 (-1), .int .i64 (0), .int .i64 (1), .int .i64 (2), .int .i64 (255), .int .i64 (1440), .int .i64 (86400), .int .i64 (86401), .int .i64 (999999999), .int .i64 (1000000000), .int .i64 (1000000001), .int .i64 (-1000000001), .int .i64 (9223372036854775807), .int .i64 (-9223372036854775808)] 3)) := by go_grown
  refine (int_any C oddNums _ _ (hc.keep bS) oddNums_ok (by decide) hS (fun b off n c hv => by have := hc.lt; injection hv with e1 e2 e3; injection e1 with e1; injection e1 with e1 e2; omega)).mono ?_
  rintro e w1 ⟨x, rfl, hx, c1, s1⟩
  go_wp2_with fail
  go_ret
  exact ⟨_, rfl, oddNums_ok _ hx, c1, (Saves.of_below bS).trans s1⟩
theorem Saves.setNew {C : Nat} {a w : World} (h : Saves C a w) {p : Addr} (hp : a.heap.size ≤ p.block) (u : Value) : Saves C a (w.setCell p u) :=
  ⟨h.os, h.tape, h.output, by have := h.size; simpa [World.setCell] using this, fun k hk hc => (Below.heap_setCell _ _ _ _ (by omega)).trans (h.block k hk hc)⟩
theorem Cur.setB {C : Nat} {w : World} (h : Cur C w) {p : Addr} (hp : C < p.block) (u : Value) : Cur C (w.setCell p u) := by
  obtain ⟨w0, A, cap, xs, i, x, sl, hC, b0, h0, h1, h2, hf, r⟩ := h
  have e : ∀ j, (w.setCell p u).cell? ⟨C, j, none⟩ = w.cell? ⟨C, j, none⟩ := fun j => World.cell?_of_block (w := w) (Below.heap_setCell _ _ _ _ (by simp only; omega))
  exact ⟨w0, A, cap, xs, i, x, sl, hC, b0.setCell (by omega) _, (e 0).trans h0, (e 1).trans h1, (e 2).trans h2, fun j => (World.frozen?_of_block (w := w) (Below.heap_setCell _ _ _ _ (by simp only; omega))).trans (hf j), r⟩
def labelNames : List ByteArray := placeNames ++ badPlaces
theorem in_places {s : ByteArray} (h : s ∈ placeNames) : s ∈ labelNames := List.mem_append_left _ h
theorem in_bad {s : ByteArray} (h : s ∈ badPlaces) : s ∈ labelNames := List.mem_append_right _ h
end Go.Proofs.Ytdmeinfdldiegaa
