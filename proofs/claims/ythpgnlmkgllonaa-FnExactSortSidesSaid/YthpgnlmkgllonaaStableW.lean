/- The library's stable sort walked, at every length: over any row, any order that is read in the world as it stands, any exchange of two places. No condition. -/
import Derived.Test.YthpgnlmkgllonaaBase
import Derived.Test.YthpgnlmkgllonaaStableMath
import Derived.IntWalk
import Derived.Shelf.Lay
namespace Go.Proofs.Ythpgnlmkgllonaa
open Go.RowKit Go.PlainAid Go.Shelf
open SB
set_option maxRecDepth 100000
set_option linter.unusedVariables false
variable {α : Type}
/-- A closure that compares, a function that exchanges, and what the row looks like. -/
structure SEnv (g sf : Nat) (lb sb : Array Value) (lt : α → α → Bool) (n row : Nat) (St : World → (Nat → α) → Prop) : Prop where
  keep : ∀ {w w' : World} {d : Nat → α}, St w d → Below w.heap.size w w' → St w' d
  lt_ : ∀ {w : World} {d : Nat → α}, St w d → row < w.heap.size
  enter : ∀ args w, (callFunc g args).run Try.prog w = .ok (.enter g args) w
  less : ∀ {w : World} {d : Nat → α} (i j : Nat) (x y : Int), x = (i : Int) → y = (j : Int) → St w d → i < n → j < n → Calls Try.prog g (#[.int .i64 x, .int .i64 y] ++ lb) w fun e w' => e = .returned (.bool (lt (d i) (d j))) ∧ Below w.heap.size w w'
  swap : ∀ {w : World} {d : Nat → α} (i j : Nat) (x y : Int), x = (i : Int) → y = (j : Int) → St w d → i < n → j < n → ∃ w', (callFunc sf (#[.int .i64 x, .int .i64 y] ++ sb)).run Try.prog w = .ok (.value (.tuple #[])) w' ∧ St w' (swp d i j) ∧ w.grownBy w' (some row)
theorem gr_refl (w : World) (row : Nat) : w.grownBy w (some row) := World.grownBy.refl _ _
theorem gr_below {w a b : World} {row : Option Nat} (h : w.grownBy a row) (g : Below a.heap.size a b) : w.grownBy b row := ⟨g.os.trans h.os, g.tape.trans h.tape, g.output.trans h.output, Nat.le_trans h.size g.size, fun i hi hne => (g.block i (Nat.lt_of_lt_of_le hi h.size)).trans (h.block i hi hne)⟩
theorem gr_trans {w a b : World} {row : Option Nat} (h : w.grownBy a row) (g : a.grownBy b row) : w.grownBy b row := ⟨g.os.trans h.os, g.tape.trans h.tape, g.output.trans h.output, Nat.le_trans h.size g.size, fun i hi hne => (g.block i (Nat.lt_of_lt_of_le hi h.size) hne).trans (h.block i hi hne)⟩
theorem gr_cell {w w' : World} {row : Nat} (h : w.grownBy w' (some row)) {p : Addr} {v : Value} (hc : w.cell? p = some v) (hr : p.block ≠ row) : w'.cell? p = some v := by
  have hl : p.block < w.heap.size := by
    rcases Nat.lt_or_ge p.block w.heap.size with hlt | hge
    · exact hlt
    · unfold World.cell? at hc; rw [Array.getElem?_eq_none hge] at hc; simp at hc
  exact (World.cell?_of_block (w := w) (h.block p.block hl (by intro e; injection e with e; exact hr e))).trans hc
def SPostS (row : Nat) (St : World → (Nat → α) → Prop) (R : (Nat → α) → Prop) (w : World) (e : Ending) (w' : World) : Prop := ∃ d', e = .returned (.tuple #[]) ∧ St w' d' ∧ Hid (R d') ∧ w.grownBy w' (some row)
end Go.Proofs.Ythpgnlmkgllonaa
