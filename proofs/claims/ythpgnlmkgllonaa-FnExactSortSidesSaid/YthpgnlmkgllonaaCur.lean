/- The cursor that the reference draws from: what a draw leaves as it was. No condition. -/
import Derived.Test.YthpgnlmkgllonaaArgs
import Derived.Laws.BitsAllLaws
import Derived.Laws.BitsLemmas
namespace Go.Proofs.Ythpgnlmkgllonaa
open Go.RowKit Go.PlainAid
set_option maxRecDepth 100000
set_option linter.unusedVariables false
/-- From w to w' no block has turned but block C. -/
structure Saves (C : Nat) (w w' : World) : Prop where
  os : w'.os = w.os
  tape : w'.tape = w.tape
  output : w'.output = w.output
  size : w.heap.size ≤ w'.heap.size
  block : ∀ k, k < w.heap.size → k ≠ C → w'.heap[k]? = w.heap[k]?
theorem Saves.refl (C : Nat) (w : World) : Saves C w w := ⟨rfl, rfl, rfl, Nat.le_refl _, fun _ _ _ => rfl⟩
theorem Saves.trans {C : Nat} {a b c : World} (h : Saves C a b) (k : Saves C b c) : Saves C a c :=
  ⟨k.os.trans h.os, k.tape.trans h.tape, k.output.trans h.output, Nat.le_trans h.size k.size, fun i hi hc => (k.block i (by have := h.size; omega) hc).trans (h.block i hi hc)⟩
theorem Saves.of_below {C : Nat} {a b : World} (h : Below a.heap.size a b) : Saves C a b := ⟨h.os, h.tape, h.output, h.size, fun k hk _ => h.block k hk⟩
theorem Saves.below {C B : Nat} {a b : World} (h : Saves C a b) (h1 : B ≤ C) (h2 : B ≤ a.heap.size) : Below B a b := ⟨h.os, h.tape, h.output, h.size, fun k hk => h.block k (by omega) (by omega)⟩
theorem Saves.setCell {C : Nat} {a w : World} (h : Saves C a w) {p : Addr} (hp : p.block = C) (u : Value) : Saves C a (w.setCell p u) :=
  h.trans ⟨rfl, rfl, rfl, by simp [World.setCell], fun k hk hc => Below.heap_setCell _ _ _ _ (by omega)⟩
theorem Saves.alloc {C : Nat} {a w : World} (h : Saves C a w) (o : Obj) : Saves C a (w.alloc o) :=
  h.trans ⟨rfl, rfl, rfl, by simp, fun k hk hc => Below.heap_alloc _ _ _ hk⟩
theorem Saves.drew {C : Nat} {a w : World} (h : Saves C a w) : Saves C a w.drew := ⟨h.os, h.tape, h.output, h.size, h.block⟩
theorem Saves.cell {C : Nat} {w w' : World} (h : Saves C w w') {p : Addr} (hp : p.block < w.heap.size) (hc : p.block ≠ C) : w'.cell? p = w.cell? p := World.cell?_of_block (w := w) (h.block p.block hp hc)
theorem Saves.frozen {C : Nat} {w w' : World} (h : Saves C w w') {p : Addr} (hp : p.block < w.heap.size) (hc : p.block ≠ C) : w'.frozen? p = w.frozen? p := World.frozen?_of_block (w := w) (h.block p.block hp hc)
theorem Saves.at' {C : Nat} {a b : World} {p : Addr} {v : Value} (s : Saves C a b) (h : a.cell? p = some v) (hc : p.block ≠ C) : b.cell? p = some v := (s.cell (cell_lt h) hc).trans h
theorem and_255 (y : Int) : 0 ≤ bits .and .i64 y 255 ∧ bits .and .i64 y 255 ≤ 255 := by
  have h : ((BitVec.ofInt 64 y) &&& (BitVec.ofInt 64 255)).toNat ≤ 255 := by
    rw [BitVec.toNat_and]; exact Nat.and_le_right
  have e : bits .and .i64 y 255 = IntKind.i64.wrap (((BitVec.ofInt 64 y) &&& (BitVec.ofInt 64 255)).toNat : Int) := rfl
  rw [e, IntKind.wrap_i64]
  omega
/-- A cursor in block C: its bytes lie below, its place is in them. -/
def Cur (C : Nat) (w : World) : Prop := ∃ (w0 : World) (A : Option Addr) (cap : Nat) (xs : List Int) (i h : Int), SliceOf w0 1 vB (.slice A xs.length cap) xs ∧ w0.heap.size ≤ C ∧ Below w0.heap.size w0 w ∧
  w.cell? ⟨C, 0, none⟩ = some (.slice A xs.length cap) ∧ w.cell? ⟨C, 1, none⟩ = some (.int .i64 i) ∧ w.cell? ⟨C, 2, none⟩ = some (.int .i64 h) ∧ (∀ j, w.frozen? ⟨C, j, none⟩ = false) ∧ 0 ≤ i ∧ i ≤ (xs.length : Int)
theorem Cur.lt {C : Nat} {w : World} (h : Cur C w) : C < w.heap.size := by
  obtain ⟨_, _, _, _, _, _, _, _, _, h0, _⟩ := h
  exact cell_lt h0
theorem Cur.keep {C : Nat} {w w' : World} (h : Cur C w) (b : Below w.heap.size w w') : Cur C w' := by
  have hlt := h.lt
  obtain ⟨w0, A, cap, xs, i, x, s, hC, b0, h0, h1, h2, hf, r⟩ := h
  exact ⟨w0, A, cap, xs, i, x, s, hC, b0.trans (b.mono (by have := b0.size; omega)), cell_keep b h0, cell_keep b h1, cell_keep b h2, fun j => (b.frozen (p := ⟨C, j, none⟩) hlt).trans (hf j), r⟩
theorem Cur.step {C : Nat} {w0 W Q : World} {A : Option Addr} {cap : Nat} {xs : List Int} {i g : Int} (sl : SliceOf w0 1 vB (.slice A xs.length cap) xs) (hC : w0.heap.size ≤ C) (BW : Below w0.heap.size w0 W)
    (x0 : W.cell? ⟨C, 0, none⟩ = some (.slice A xs.length cap)) (x1 : W.cell? ⟨C, 1, none⟩ = some (.int .i64 i)) (x2 : W.cell? ⟨C, 2, none⟩ = some (.int .i64 g)) (xf : ∀ j, W.frozen? ⟨C, j, none⟩ = false)
    (b : Below W.heap.size W Q) (h0 : 0 ≤ i) (h1 : i < (xs.length : Int)) : Cur C (Q.setCell ⟨C, 1, none⟩ (.int .i64 (i + 1))) := by
  have hlt : C < W.heap.size := cell_lt x0
  have q0 := cell_keep b x0
  have q1 := cell_keep b x1
  have q2 := cell_keep b x2
  have qf : ∀ j, Q.frozen? ⟨C, j, none⟩ = false := fun j => (b.frozen (p := ⟨C, j, none⟩) hlt).trans (xf j)
  exact ⟨w0, A, cap, xs, i + 1, g, sl, hC, (BW.trans (b.mono (by have := BW.size; omega))).setCell hC _, by simp [go_sem, q0], World.cell?_setCell_same _ _ _ q1, by simp [go_sem, q2], fun j => by simp [go_sem, qf], by omega, by omega⟩
theorem Cur.keepB {C B : Nat} {w w' : World} (h : Cur C w) (b : Below B w w') (hB : C < B) : Cur C w' := by
  obtain ⟨w0, A, cap, xs, i, x, s, hC, b0, h0, h1, h2, hf, r⟩ := h
  have e : ∀ j, w'.cell? ⟨C, j, none⟩ = w.cell? ⟨C, j, none⟩ := fun j => b.cell (p := ⟨C, j, none⟩) hB
  exact ⟨w0, A, cap, xs, i, x, s, hC, b0.trans (b.mono (by omega)), (e 0).trans h0, (e 1).trans h1, (e 2).trans h2, fun j => (b.frozen (p := ⟨C, j, none⟩) hB).trans (hf j), r⟩
theorem Saves.belowR {C B : Nat} {a b c : World} (h : Saves C a b) (k : Below B b c) (hB : a.heap.size ≤ B) : Saves C a c :=
  ⟨k.os.trans h.os, k.tape.trans h.tape, k.output.trans h.output, Nat.le_trans h.size k.size, fun i hi hne => (k.block i (by omega)).trans (h.block i hi hne)⟩
end Go.Proofs.Ythpgnlmkgllonaa
