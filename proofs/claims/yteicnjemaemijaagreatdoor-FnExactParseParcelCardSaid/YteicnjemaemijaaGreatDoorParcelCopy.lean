/- How the laws copy, measure and compare a parcel. No condition. -/
import Derived.Test.YteicnjemaemijaaGreatDoorInts
import Derived.Test.YteicnjemaemijaaGreatDoorLabel
import Derived.Test.YteicnjemaemijaaGreatDoorBoxes
namespace Go.Proofs.YteicnjemaemijaaGreatDoor
open Go.RowKit Go.PlainAid
set_option maxRecDepth 100000
set_option linter.unusedVariables false
theorem Own.setB {α : Type} {w : World} {base size : Nat} {e : TypeId} {vals : α → List Value} {v : Value} {xs : List α} (h : Own w base e size vals v xs) {a : Addr} (ha : a.block < base) (u : Value) : Own (w.setCell a u) base e size vals v xs :=
  ownsRow_setCell_below h ha u
def MadeP (a b : Int) (t f : ByteArray) (wt : Int) (xs : List Int) (vl : Int) (w : World) (e : Ending) (w' : World) : Prop :=
  ∃ s, e = .returned (.agg #[.int .i64 a, .int .i64 b, .string t, .string f, .int .i64 wt, s, .int .i64 vl]) ∧ SliceOf w' 1 vI s xs ∧ Below w.heap.size w w'
theorem SliceOf.setNew {α : Type} {w : World} {size : Nat} {vals : α → List Value} {A : Option Addr} {n c : Nat} {xs : List α} (h : SliceOf w size vals (.slice A n c) xs) {p : Addr} (hb : ∀ b off, A = some ⟨b, off, none⟩ → b ≠ p.block) (u : Value) : SliceOf (w.setCell p u) size vals (.slice A n c) xs := by
  obtain ⟨A', c', e, h1, h2, h3⟩ := h
  injection e with e1 e2 e3
  subst e1 e2 e3
  refine ⟨A, c, rfl, h1, h2, fun hn => ?_⟩
  obtain ⟨b, off, rfl, hlt, hc⟩ := h3 hn
  exact ⟨b, off, rfl, by simpa [World.setCell] using hlt, fun k x j u' hx hu => (World.cell?_of_block (w := w) (Below.heap_setCell _ _ _ _ (hb b off rfl))).trans (hc k x j u' hx hu)⟩
def SziPost (n : Nat) (left : Int) (w : World) (e : Ending) (w' : World) : Prop := ∃ r : Int, e = .returned (.int .i64 r) ∧ -1 ≤ r ∧ r ≤ left ∧ (0 ≤ r → (n : Int) ≤ left) ∧ w = w'
def SzpPost (n : Nat) (left : Int) (w : World) (e : Ending) (w' : World) : Prop := ∃ r : Int, e = .returned (.int .i64 r) ∧ -1 ≤ r ∧ r ≤ left ∧ (0 ≤ r → (n : Int) ≤ left) ∧ Below w.heap.size w w'
theorem eqLabel_same (a b : Int) (t : ByteArray) (w : World) : Calls Tryz.prog 24 #[.agg #[.int .i64 a, .int .i64 b, .string t], .agg #[.int .i64 a, .int .i64 b, .string t]] w fun e w' => e = .returned (.bool true) ∧ Below w.heap.size w w' := by
  go_enter Tryz.func24, Tryz.ntmps24
  go_wp2
  repeat (go_quiet (fail); go_wp2)
  go_ret
  exact ⟨rfl, by first | go_grown | (refine below_drewN ?_ _; go_grown)⟩
set_option maxHeartbeats 3200000 in
theorem eqParcel_same (a b : Int) (t f : ByteArray) (wt : Int) (xs : List Int) (vl : Int) (V V' : Value) (w : World) (sl : SliceOf w 1 vI V xs) (sl' : SliceOf w 1 vI V' xs) :
    Calls Tryz.prog 7 #[.agg #[.int .i64 a, .int .i64 b, .string t, .string f, .int .i64 wt, V, .int .i64 vl], .agg #[.int .i64 a, .int .i64 b, .string t, .string f, .int .i64 wt, V', .int .i64 vl]] w fun e w' => e = .returned (.bool true) ∧ Below w.heap.size w w' := by
  obtain ⟨A, c, rfl, -, -⟩ := sl.form
  obtain ⟨A', c', rfl, -, -⟩ := sl'.form
  go_enter Tryz.func7, Tryz.ntmps7
  go_wp2_with fail
  obtain ⟨W, hW⟩ : ∃ W, W = (w.alloc (.cells #[.int .i64 a, .int .i64 b, .string t, .string f, .int .i64 wt, .slice A xs.length c, .int .i64 vl] 26)).alloc (.cells #[.int .i64 a, .int .i64 b, .string t, .string f, .int .i64 wt, .slice A' xs.length c', .int .i64 vl] 26) := ⟨_, rfl⟩
  rw [← hW]
  have x0 : W.cell? ⟨w.heap.size, 0, none⟩ = some (.int .i64 a) := by rw [hW]; simp [go_sem]
  have x1 : W.cell? ⟨w.heap.size, 1, none⟩ = some (.int .i64 b) := by rw [hW]; simp [go_sem]
  have x2 : W.cell? ⟨w.heap.size, 2, none⟩ = some (.string t) := by rw [hW]; simp [go_sem]
  have x3 : W.cell? ⟨w.heap.size, 3, none⟩ = some (.string f) := by rw [hW]; simp [go_sem]
  have x4 : W.cell? ⟨w.heap.size, 4, none⟩ = some (.int .i64 wt) := by rw [hW]; simp [go_sem]
  have x5 : W.cell? ⟨w.heap.size, 5, none⟩ = some (.slice A xs.length c) := by rw [hW]; simp [go_sem]
  have x6 : W.cell? ⟨w.heap.size, 6, none⟩ = some (.int .i64 vl) := by rw [hW]; simp [go_sem]
  have y0 : W.cell? ⟨w.heap.size + 1, 0, none⟩ = some (.int .i64 a) := by rw [hW]; simp [go_sem]
  have y1 : W.cell? ⟨w.heap.size + 1, 1, none⟩ = some (.int .i64 b) := by rw [hW]; simp [go_sem]
  have y2 : W.cell? ⟨w.heap.size + 1, 2, none⟩ = some (.string t) := by rw [hW]; simp [go_sem]
  have y3 : W.cell? ⟨w.heap.size + 1, 3, none⟩ = some (.string f) := by rw [hW]; simp [go_sem]
  have y4 : W.cell? ⟨w.heap.size + 1, 4, none⟩ = some (.int .i64 wt) := by rw [hW]; simp [go_sem]
  have y5 : W.cell? ⟨w.heap.size + 1, 5, none⟩ = some (.slice A' xs.length c') := by rw [hW]; simp [go_sem]
  have y6 : W.cell? ⟨w.heap.size + 1, 6, none⟩ = some (.int .i64 vl) := by rw [hW]; simp [go_sem]
  have HW : Below w.heap.size w W := by rw [hW]; go_grown
  clear hW
  have SL := sl.keep HW (Nat.le_refl _)
  have SL' := sl'.keep HW (Nat.le_refl _)
  refine (eqLabel_same a b t W).mono ?_
  rintro e w1 ⟨rfl, b1⟩
  have B1 := chain HW b1
  replace SL := SL.keep b1 (Nat.le_refl _)
  replace SL' := SL'.keep b1 (Nat.le_refl _)
  replace x0 := cell_keep b1 x0
  replace x1 := cell_keep b1 x1
  replace x2 := cell_keep b1 x2
  replace x3 := cell_keep b1 x3
  replace x4 := cell_keep b1 x4
  replace x5 := cell_keep b1 x5
  replace x6 := cell_keep b1 x6
  replace y0 := cell_keep b1 y0
  replace y1 := cell_keep b1 y1
  replace y2 := cell_keep b1 y2
  replace y3 := cell_keep b1 y3
  replace y4 := cell_keep b1 y4
  replace y5 := cell_keep b1 y5
  replace y6 := cell_keep b1 y6
  go_wp2_with fail
  refine (eqIntS_any xs xs _ _ _ SL SL').mono ?_
  rintro e w2 ⟨rfl, b2⟩
  have B2 := chain B1 b2
  replace x6 := cell_keep b2 x6
  replace y6 := cell_keep b2 y6
  go_wp2_with fail
  go_ret
  exact ⟨rfl, B2⟩
end Go.Proofs.YteicnjemaemijaaGreatDoor
