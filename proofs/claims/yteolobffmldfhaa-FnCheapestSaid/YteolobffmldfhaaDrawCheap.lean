/- What the reference's draw for the cheapest service answers. No condition. -/
import Derived.Test.YteolobffmldfhaaDrawPrice
namespace Go.Proofs.Yteolobffmldfhaa
open Go.RowKit Go.PlainAid
set_option maxRecDepth 100000
set_option linter.unusedVariables false
theorem slice_setB {α : Type} {w : World} {size : Nat} {vals : α → List Value} {v : Value} {xs : List α} {p : Addr} (h : SliceOf w size vals v xs) (hb : ∀ b off n c, v = .slice (some ⟨b, off, none⟩) n c → b ≠ p.block) (u : Value) : SliceOf (w.setCell p u) size vals v xs := by
  obtain ⟨A', c', rfl, h1, h2, h3⟩ := h
  refine ⟨A', c', rfl, h1, h2, fun hn => ?_⟩
  obtain ⟨b', off', rfl, hlt, hc⟩ := h3 hn
  exact ⟨b', off', rfl, by simpa [World.setCell] using hlt, fun k x j u' hx hu => (World.cell?_of_block (w := w) (Below.heap_setCell _ _ _ _ (hb _ _ _ _ rfl))).trans (hc k x j u' hx hu)⟩
set_option maxHeartbeats 3200000 in
theorem drawCheap_any (cs : List Int) (v : Value) (w : World) (h : SliceOf w 1 vB v cs) : Calls Try.prog 39 #[v] w (PriD w) := by
  obtain ⟨A0, c0, rfl, hle, hm⟩ := h.form
  go_enter Try.func39, Try.ntmps39
  go_wp2_with fail
  obtain ⟨W, hW⟩ : ∃ W, W = w.alloc (.cells #[.int .i64 0, .int .i64 0, .string ⟨#[]⟩, .string ⟨#[]⟩, .int .i64 0, .slice none 0 0, .int .i64 0] 41) := ⟨_, rfl⟩
  rw [← hW]
  have P : Box W w.heap.size 41 #[.int .i64 0, .int .i64 0, .string ⟨#[]⟩, .string ⟨#[]⟩, .int .i64 0, .slice none 0 0, .int .i64 0] := by rw [hW]; exact Box.new _ _ _
  have bW : Below w.heap.size w W := by rw [hW]; go_grown
  have zW : W.heap.size = w.heap.size + 1 := by rw [hW]; simp
  clear hW
  refine (drawPrice_any cs _ _ (h.keep bW (Nat.le_refl _))).mono ?_
  rintro e w9 ⟨vz, zs, vr, rs, a, b, t, f, wt, A, c, xs, vl, rfl, sz, kz, sr, kr, oa, ob, ot, of, ow, sx, ox, hl4, ov, b9, hz, hr, hA⟩
  replace P := P.keep b9
  have B9 := chain bW b9
  have p0 : w9.cell? ⟨w.heap.size, 0, none⟩ = some (.int .i64 0) := P.cell 0
  have p1 : w9.cell? ⟨w.heap.size, 1, none⟩ = some (.int .i64 0) := P.cell 1
  have p2 : w9.cell? ⟨w.heap.size, 2, none⟩ = some (.string ⟨#[]⟩) := P.cell 2
  have p3 : w9.cell? ⟨w.heap.size, 3, none⟩ = some (.string ⟨#[]⟩) := P.cell 3
  have p4 : w9.cell? ⟨w.heap.size, 4, none⟩ = some (.int .i64 0) := P.cell 4
  have p5 : w9.cell? ⟨w.heap.size, 5, none⟩ = some (.slice none 0 0) := P.cell 5
  have p6 : w9.cell? ⟨w.heap.size, 6, none⟩ = some (.int .i64 0) := P.cell 6
  have pf : ∀ j, w9.frozen? ⟨w.heap.size, j, none⟩ = false := fun j => P.frozen j
  have nz : ∀ b off n c, vz = .slice (some ⟨b, off, none⟩) n c → b ≠ w.heap.size := fun b off n c e => by have := hz b off n c e; omega
  have nr : ∀ b off n c, vr = .slice (some ⟨b, off, none⟩) n c → b ≠ w.heap.size := fun b off n c e => by have := hr b off n c e; omega
  have nA : ∀ bb off, A = some ⟨bb, off, none⟩ → bb ≠ w.heap.size := fun bb off e => by have := hA bb off e; omega
  go_wp2_with fail
  refine bodyPost_ret (v := .tuple #[vz, vr, .agg #[.int .i64 a, .int .i64 b, .string t, .string f, .int .i64 wt, .slice A xs.length c, .int .i64 vl]]) (by simp [results, Try.results39, go_sem, p0, p1, p2, p3, p4, p5, p6]) rfl ⟨vz, zs, vr, rs, _, _, _, _, _, A, c, xs, _, rfl, ?_, kz, ?_, kr, oa, ob, ot, of, ow, ?_, ox, hl4, ov, ?_, fun b off n c e => by have := hz b off n c e; omega, fun b off n c e => by have := hr b off n c e; omega, fun b off e => by have := hA b off e; omega⟩
  · repeat' (first | with_reducible exact sz | with_reducible refine slice_setB ?_ ?_ _ | exact nz)
  · repeat' (first | with_reducible exact sr | with_reducible refine slice_setB ?_ ?_ _ | exact nr)
  · repeat' (first | with_reducible exact sx | with_reducible refine slice_set ?_ ?_ _ | exact nA)
  · repeat' (first | with_reducible exact B9 | with_reducible refine Below.setCell ?_ ?_ _ | (simp only; omega))
end Go.Proofs.Yteolobffmldfhaa
