/- How the laws copy, measure and compare a parcel. No condition. -/
import Derived.Test.YteicnjemaemijaaDoorInts
import Derived.Test.YteicnjemaemijaaDoorLabel
import Derived.Test.YteicnjemaemijaaDoorBoxes
namespace Go.Proofs.YteicnjemaemijaaDoor
open Go.RowKit Go.PlainAid
set_option maxRecDepth 100000
set_option linter.unusedVariables false
theorem Own.setB {α : Type} {w : World} {base size : Nat} {e : TypeId} {vals : α → List Value} {v : Value} {xs : List α} (h : Own w base e size vals v xs) {a : Addr} (ha : a.block < base) (u : Value) : Own (w.setCell a u) base e size vals v xs :=
  ownsRow_setCell_below h ha u
def MadeP (a b : Int) (t f : ByteArray) (wt : Int) (xs : List Int) (vl : Int) (w : World) (e : Ending) (w' : World) : Prop :=
  ∃ s, e = .returned (.agg #[.int .i64 a, .int .i64 b, .string t, .string f, .int .i64 wt, s, .int .i64 vl]) ∧ SliceOf w' 1 vI s xs ∧ Below w.heap.size w w'
theorem SliceOf.setNew {α : Type} {w : World} {size : Nat} {vals : α → List Value} {A : Option Addr} {n c : Nat} {xs : List α} (h : SliceOf w size vals (.slice A n c) xs) {p : Addr} (hb : ∀ b off, A = some ⟨b, off, none⟩ → b ≠ p.block) (u : Value) : SliceOf (w.setCell p u) size vals (.slice A n c) xs := by
  obtain ⟨A', c', e, h1, h2, h3⟩ := h
  injection e with e1 e2 e3
  subst e1 e2 e3
  refine ⟨A, c, rfl, h1, h2, fun hn => ?_⟩
  obtain ⟨b, off, rfl, hlt, hc⟩ := h3 hn
  exact ⟨b, off, rfl, by simpa [World.setCell] using hlt, fun k x j u' hx hu => (World.cell?_of_block (w := w) (Below.heap_setCell _ _ _ _ (hb b off rfl))).trans (hc k x j u' hx hu)⟩
set_option maxHeartbeats 1600000 in
theorem toParcel_any (a b : Int) (t f : ByteArray) (wt : Int) (xs : List Int) (vl : Int) (V : Value) (w : World) (sl : SliceOf w 1 vI V xs) (hn : xs.length ≤ 1048576) :
    Calls Tryd.prog 6 #[.agg #[.int .i64 a, .int .i64 b, .string t, .string f, .int .i64 wt, V, .int .i64 vl]] w (MadeP a b t f wt xs vl w) := by
  obtain ⟨A, c, rfl, -, -⟩ := sl.form
  go_enter Tryd.func6, Tryd.ntmps6
  go_wp2_with fail
  obtain ⟨W, hW⟩ : ∃ W, W = ((w.alloc (.cells #[.int .i64 a, .int .i64 b, .string t, .string f, .int .i64 wt, .slice A xs.length c, .int .i64 vl] 26)).alloc (.cells #[.int .i64 0, .int .i64 0, .string ⟨#[]⟩, .string ⟨#[]⟩, .int .i64 0, .slice none 0 0, .int .i64 0] 31)).alloc (.cells #[.int .i64 0, .int .i64 0, .string ⟨#[]⟩, .string ⟨#[]⟩, .int .i64 0, .slice none 0 0, .int .i64 0] 31) := ⟨_, rfl⟩
  rw [← hW]
  have x0 : W.cell? ⟨w.heap.size, 0, none⟩ = some (.int .i64 a) := by rw [hW]; simp [go_sem]
  have x1 : W.cell? ⟨w.heap.size, 1, none⟩ = some (.int .i64 b) := by rw [hW]; simp [go_sem]
  have x2 : W.cell? ⟨w.heap.size, 2, none⟩ = some (.string t) := by rw [hW]; simp [go_sem]
  have x3 : W.cell? ⟨w.heap.size, 3, none⟩ = some (.string f) := by rw [hW]; simp [go_sem]
  have x4 : W.cell? ⟨w.heap.size, 4, none⟩ = some (.int .i64 wt) := by rw [hW]; simp [go_sem]
  have x5 : W.cell? ⟨w.heap.size, 5, none⟩ = some (.slice A xs.length c) := by rw [hW]; simp [go_sem]
  have x6 : W.cell? ⟨w.heap.size, 6, none⟩ = some (.int .i64 vl) := by rw [hW]; simp [go_sem]
  have y0 : W.cell? ⟨w.heap.size + 1, 0, none⟩ = some (.int .i64 0) := by rw [hW]; simp [go_sem]
  have y1 : W.cell? ⟨w.heap.size + 1, 1, none⟩ = some (.int .i64 0) := by rw [hW]; simp [go_sem]
  have y2 : W.cell? ⟨w.heap.size + 1, 2, none⟩ = some (.string ⟨#[]⟩) := by rw [hW]; simp [go_sem]
  have y3 : W.cell? ⟨w.heap.size + 1, 3, none⟩ = some (.string ⟨#[]⟩) := by rw [hW]; simp [go_sem]
  have y4 : W.cell? ⟨w.heap.size + 1, 4, none⟩ = some (.int .i64 0) := by rw [hW]; simp [go_sem]
  have y5 : W.cell? ⟨w.heap.size + 1, 5, none⟩ = some (.slice none 0 0) := by rw [hW]; simp [go_sem]
  have y6 : W.cell? ⟨w.heap.size + 1, 6, none⟩ = some (.int .i64 0) := by rw [hW]; simp [go_sem]
  have z0 : W.cell? ⟨w.heap.size + 1 + 1, 0, none⟩ = some (.int .i64 0) := by rw [hW]; simp [go_sem]
  have z1 : W.cell? ⟨w.heap.size + 1 + 1, 1, none⟩ = some (.int .i64 0) := by rw [hW]; simp [go_sem]
  have z2 : W.cell? ⟨w.heap.size + 1 + 1, 2, none⟩ = some (.string ⟨#[]⟩) := by rw [hW]; simp [go_sem]
  have z3 : W.cell? ⟨w.heap.size + 1 + 1, 3, none⟩ = some (.string ⟨#[]⟩) := by rw [hW]; simp [go_sem]
  have z4 : W.cell? ⟨w.heap.size + 1 + 1, 4, none⟩ = some (.int .i64 0) := by rw [hW]; simp [go_sem]
  have z5 : W.cell? ⟨w.heap.size + 1 + 1, 5, none⟩ = some (.slice none 0 0) := by rw [hW]; simp [go_sem]
  have z6 : W.cell? ⟨w.heap.size + 1 + 1, 6, none⟩ = some (.int .i64 0) := by rw [hW]; simp [go_sem]
  have fy : ∀ j, W.frozen? ⟨w.heap.size + 1, j, none⟩ = false := fun j => by rw [hW]; simp [go_sem]
  have fz : ∀ j, W.frozen? ⟨w.heap.size + 1 + 1, j, none⟩ = false := fun j => by rw [hW]; simp [go_sem]
  have HW : Below w.heap.size w W := by rw [hW]; go_grown
  have hs : W.heap.size = w.heap.size + 3 := by rw [hW]; simp
  have HS := Lib.hid hs
  have HSL := Lib.hid sl
  clear hW sl hs
  refine (toLabel_any a b t W).mono ?_
  rintro e w1 ⟨rfl, b1⟩
  have B1 := chain HW b1
  replace fy : ∀ j, w1.frozen? ⟨w.heap.size + 1, j, none⟩ = false := fun j => (b1.frozen (p := ⟨w.heap.size + 1, j, none⟩) (by rw [HS.out]; simp)).trans (fy j)
  replace fz : ∀ j, w1.frozen? ⟨w.heap.size + 1 + 1, j, none⟩ = false := fun j => (b1.frozen (p := ⟨w.heap.size + 1 + 1, j, none⟩) (by rw [HS.out]; simp)).trans (fz j)
  replace x0 := cell_keep b1 x0
  replace x1 := cell_keep b1 x1
  replace x2 := cell_keep b1 x2
  replace x3 := cell_keep b1 x3
  replace x4 := cell_keep b1 x4
  replace x5 := cell_keep b1 x5
  replace x6 := cell_keep b1 x6
  replace y0 := cell_keep b1 y0
  replace y1 := cell_keep b1 y1
  replace y2 := cell_keep b1 y2
  replace y3 := cell_keep b1 y3
  replace y4 := cell_keep b1 y4
  replace y5 := cell_keep b1 y5
  replace y6 := cell_keep b1 y6
  replace z0 := cell_keep b1 z0
  replace z1 := cell_keep b1 z1
  replace z2 := cell_keep b1 z2
  replace z3 := cell_keep b1 z3
  replace z4 := cell_keep b1 z4
  replace z5 := cell_keep b1 z5
  replace z6 := cell_keep b1 z6
  go_wp2_with fail
  obtain ⟨W1, hW1⟩ : ∃ W1, W1 = (((((w1).setCell ⟨w.heap.size + 1 + 1, 0, none⟩ (.int .i64 a)).setCell ⟨w.heap.size + 1 + 1, 1, none⟩ (.int .i64 b)).setCell ⟨w.heap.size + 1 + 1, 2, none⟩ (.string t)).setCell ⟨w.heap.size + 1 + 1, 3, none⟩ (.string f)).setCell ⟨w.heap.size + 1 + 1, 4, none⟩ (.int .i64 wt) := ⟨_, rfl⟩
  rw [← hW1]
  have X6 : W1.cell? ⟨w.heap.size, 6, none⟩ = some (.int .i64 vl) := by rw [hW1]; simp [go_sem, x6]
  have Y0 : W1.cell? ⟨w.heap.size + 1, 0, none⟩ = some (.int .i64 0) := by rw [hW1]; simp [go_sem, y0]
  have Y1 : W1.cell? ⟨w.heap.size + 1, 1, none⟩ = some (.int .i64 0) := by rw [hW1]; simp [go_sem, y1]
  have Y2 : W1.cell? ⟨w.heap.size + 1, 2, none⟩ = some (.string ⟨#[]⟩) := by rw [hW1]; simp [go_sem, y2]
  have Y3 : W1.cell? ⟨w.heap.size + 1, 3, none⟩ = some (.string ⟨#[]⟩) := by rw [hW1]; simp [go_sem, y3]
  have Y4 : W1.cell? ⟨w.heap.size + 1, 4, none⟩ = some (.int .i64 0) := by rw [hW1]; simp [go_sem, y4]
  have Y5 : W1.cell? ⟨w.heap.size + 1, 5, none⟩ = some (.slice none 0 0) := by rw [hW1]; simp [go_sem, y5]
  have Y6 : W1.cell? ⟨w.heap.size + 1, 6, none⟩ = some (.int .i64 0) := by rw [hW1]; simp [go_sem, y6]
  have Z0 : W1.cell? ⟨w.heap.size + 1 + 1, 0, none⟩ = some (.int .i64 a) := by rw [hW1]; simp [go_sem, z0]
  have Z1 : W1.cell? ⟨w.heap.size + 1 + 1, 1, none⟩ = some (.int .i64 b) := by rw [hW1]; simp [go_sem, z1]
  have Z2 : W1.cell? ⟨w.heap.size + 1 + 1, 2, none⟩ = some (.string t) := by rw [hW1]; simp [go_sem, z2]
  have Z3 : W1.cell? ⟨w.heap.size + 1 + 1, 3, none⟩ = some (.string f) := by rw [hW1]; simp [go_sem, z3]
  have Z4 : W1.cell? ⟨w.heap.size + 1 + 1, 4, none⟩ = some (.int .i64 wt) := by rw [hW1]; simp [go_sem, z4]
  have Z5 : W1.cell? ⟨w.heap.size + 1 + 1, 5, none⟩ = some (.slice none 0 0) := by rw [hW1]; simp [go_sem, z5]
  have Z6 : W1.cell? ⟨w.heap.size + 1 + 1, 6, none⟩ = some (.int .i64 0) := by rw [hW1]; simp [go_sem, z6]
  have FY : ∀ j, W1.frozen? ⟨w.heap.size + 1, j, none⟩ = false := fun j => by rw [hW1]; simp [go_sem, fy]
  have FZ : ∀ j, W1.frozen? ⟨w.heap.size + 1 + 1, j, none⟩ = false := fun j => by rw [hW1]; simp [go_sem, fz]
  have BB : Below w.heap.size w W1 := by
    rw [hW1]
    repeat' (first | with_reducible exact B1 | with_reducible refine Below.setCell ?_ ?_ _ | (simp only; omega))
  clear hW1 x0 x1 x2 x3 x4 x5 x6 y0 y1 y2 y3 y4 y5 y6 z0 z1 z2 z3 z4 z5 z6 fy fz b1 B1
  refine (toIntS_any xs _ _ (HSL.out.keep BB (Nat.le_refl _)) hn).mono ?_
  rintro e w2 ⟨v2, rfl, o2, b2⟩
  obtain ⟨A2, c2, rfl, -, -⟩ := o2.form
  have B2 := chain BB b2
  have lt1 := cell_lt Z0
  have lt2 : w.heap.size + 2 < W1.heap.size := by simpa using lt1
  replace FY : ∀ j, w2.frozen? ⟨w.heap.size + 1, j, none⟩ = false := fun j => (b2.frozen (p := ⟨w.heap.size + 1, j, none⟩) (by simp; omega)).trans (FY j)
  replace FZ : ∀ j, w2.frozen? ⟨w.heap.size + 1 + 1, j, none⟩ = false := fun j => (b2.frozen (p := ⟨w.heap.size + 1 + 1, j, none⟩) (by simp; omega)).trans (FZ j)
  replace X6 := cell_keep b2 X6
  replace Y0 := cell_keep b2 Y0
  replace Y1 := cell_keep b2 Y1
  replace Y2 := cell_keep b2 Y2
  replace Y3 := cell_keep b2 Y3
  replace Y4 := cell_keep b2 Y4
  replace Y5 := cell_keep b2 Y5
  replace Y6 := cell_keep b2 Y6
  replace Z0 := cell_keep b2 Z0
  replace Z1 := cell_keep b2 Z1
  replace Z2 := cell_keep b2 Z2
  replace Z3 := cell_keep b2 Z3
  replace Z4 := cell_keep b2 Z4
  replace Z5 := cell_keep b2 Z5
  replace Z6 := cell_keep b2 Z6
  go_wp2_with fail
  refine bodyPost_ret (v := .agg #[.int .i64 a, .int .i64 b, .string t, .string f, .int .i64 wt, .slice A2 xs.length c2, .int .i64 vl]) (by simp [results, Tryd.results6, go_sem, Y0, Y1, Y2, Y3, Y4, Y5, Y6]) rfl ⟨_, rfl, ?_, ?_⟩
  · refine Own.slice (base := W1.heap.size) (e := 3) vI_len (by omega) ?_
    repeat' (first | with_reducible exact o2 | with_reducible refine Own.setB ?_ ?_ _ | (simp only; omega))
  · repeat' (first | with_reducible exact B2 | with_reducible refine Below.setCell ?_ ?_ _ | (simp only; omega))
def SziPost (n : Nat) (left : Int) (w : World) (e : Ending) (w' : World) : Prop := ∃ r : Int, e = .returned (.int .i64 r) ∧ -1 ≤ r ∧ r ≤ left ∧ (0 ≤ r → (n : Int) ≤ left) ∧ w = w'
theorem szIntS_anyP (xs : List Int) (left : Int) (v : Value) (w : World) (h : SliceOf w 1 vI v xs) (hl : 0 ≤ left) (hl2 : left ≤ 1048576) : Calls Tryd.prog 10 #[v, .int .i64 left] w (SziPost xs.length left w) := by
  obtain ⟨A, c, rfl, hle, hm⟩ := h.form
  unfold maxLen at hm
  by_cases hb : left < xs.length
  · go_enter Tryd.func10, Tryd.ntmps10
    go_wp2
    go_ret
    exact ⟨_, rfl, by omega, by omega, by omega, rfl⟩
  · go_enter Tryd.func10, Tryd.ntmps10
    go_wp2
    go_ret
    exact ⟨_, rfl, by omega, by omega, by omega, rfl⟩
def SzpPost (n : Nat) (left : Int) (w : World) (e : Ending) (w' : World) : Prop := ∃ r : Int, e = .returned (.int .i64 r) ∧ -1 ≤ r ∧ r ≤ left ∧ (0 ≤ r → (n : Int) ≤ left) ∧ Below w.heap.size w w'
set_option maxHeartbeats 3200000 in
theorem szParcel_any (a b : Int) (t f : ByteArray) (wt : Int) (xs : List Int) (vl : Int) (left : Int) (V : Value) (w : World) (ht : t.size ≤ maxLen) (hf : f.size ≤ maxLen) (sl : SliceOf w 1 vI V xs) (hl : 0 ≤ left) (hl2 : left ≤ 1048576) :
    Calls Tryd.prog 4 #[.agg #[.int .i64 a, .int .i64 b, .string t, .string f, .int .i64 wt, V, .int .i64 vl], .int .i64 left] w (SzpPost xs.length left w) := by
  obtain ⟨A, c, rfl, -, -⟩ := sl.form
  have hf' := hf
  unfold maxLen at hf'
  go_enter Tryd.func4, Tryd.ntmps4
  go_wp2_with fail
  obtain ⟨W, hW⟩ : ∃ W, W = w.alloc (.cells #[.int .i64 a, .int .i64 b, .string t, .string f, .int .i64 wt, .slice A xs.length c, .int .i64 vl] 26) := ⟨_, rfl⟩
  rw [← hW]
  have z3 : W.cell? ⟨w.heap.size, 3, none⟩ = some (.string f) := by rw [hW]; simp [go_sem]
  have z5 : W.cell? ⟨w.heap.size, 5, none⟩ = some (.slice A xs.length c) := by rw [hW]; simp [go_sem]
  have HW : Below w.heap.size w W := by rw [hW]; go_grown
  clear hW
  refine (szLabel_any a b left t W hl hl2 ht).mono ?_
  rintro e w1 ⟨r, rfl, r1, r2, r3, b1⟩
  have B1 := chain HW b1
  replace z3 := cell_keep b1 z3
  replace z5 := cell_keep b1 z5
  by_cases hr : r < 0
  · go_wp2_with fail
    go_ret
    exact ⟨_, rfl, by omega, by omega, by omega, B1⟩
  by_cases hq : r - f.size < 0
  · go_wp2_with fail
    go_ret
    exact ⟨_, rfl, by omega, by omega, by omega, B1⟩
  have SL := sl.keep B1 (Nat.le_refl _)
  go_wp2_with fail
  refine (szIntS_anyP xs _ _ _ SL (by omega) (by omega)).mono ?_
  rintro e w2 ⟨q, rfl, q1, q2, q3, rfl⟩
  by_cases hq2 : q < 0
  · go_wp2_with fail
    go_ret
    exact ⟨_, rfl, by omega, by omega, by omega, B1⟩
  · go_wp2_with fail
    go_ret
    exact ⟨_, rfl, by omega, by omega, fun _ => by have := q3 (by omega); omega, B1⟩
theorem eqLabel_same (a b : Int) (t : ByteArray) (w : World) : Calls Tryd.prog 19 #[.agg #[.int .i64 a, .int .i64 b, .string t], .agg #[.int .i64 a, .int .i64 b, .string t]] w fun e w' => e = .returned (.bool true) ∧ Below w.heap.size w w' := by
  go_enter Tryd.func19, Tryd.ntmps19
  go_wp2
  repeat (go_quiet (fail); go_wp2)
  go_ret
  exact ⟨rfl, by first | go_grown | (refine below_drewN ?_ _; go_grown)⟩
set_option maxHeartbeats 3200000 in
theorem eqParcel_same (a b : Int) (t f : ByteArray) (wt : Int) (xs : List Int) (vl : Int) (V V' : Value) (w : World) (sl : SliceOf w 1 vI V xs) (sl' : SliceOf w 1 vI V' xs) :
    Calls Tryd.prog 8 #[.agg #[.int .i64 a, .int .i64 b, .string t, .string f, .int .i64 wt, V, .int .i64 vl], .agg #[.int .i64 a, .int .i64 b, .string t, .string f, .int .i64 wt, V', .int .i64 vl]] w fun e w' => e = .returned (.bool true) ∧ Below w.heap.size w w' := by
  obtain ⟨A, c, rfl, -, -⟩ := sl.form
  obtain ⟨A', c', rfl, -, -⟩ := sl'.form
  go_enter Tryd.func8, Tryd.ntmps8
  go_wp2_with fail
  obtain ⟨W, hW⟩ : ∃ W, W = (w.alloc (.cells #[.int .i64 a, .int .i64 b, .string t, .string f, .int .i64 wt, .slice A xs.length c, .int .i64 vl] 31)).alloc (.cells #[.int .i64 a, .int .i64 b, .string t, .string f, .int .i64 wt, .slice A' xs.length c', .int .i64 vl] 31) := ⟨_, rfl⟩
  rw [← hW]
  have x0 : W.cell? ⟨w.heap.size, 0, none⟩ = some (.int .i64 a) := by rw [hW]; simp [go_sem]
  have x1 : W.cell? ⟨w.heap.size, 1, none⟩ = some (.int .i64 b) := by rw [hW]; simp [go_sem]
  have x2 : W.cell? ⟨w.heap.size, 2, none⟩ = some (.string t) := by rw [hW]; simp [go_sem]
  have x3 : W.cell? ⟨w.heap.size, 3, none⟩ = some (.string f) := by rw [hW]; simp [go_sem]
  have x4 : W.cell? ⟨w.heap.size, 4, none⟩ = some (.int .i64 wt) := by rw [hW]; simp [go_sem]
  have x5 : W.cell? ⟨w.heap.size, 5, none⟩ = some (.slice A xs.length c) := by rw [hW]; simp [go_sem]
  have x6 : W.cell? ⟨w.heap.size, 6, none⟩ = some (.int .i64 vl) := by rw [hW]; simp [go_sem]
  have y0 : W.cell? ⟨w.heap.size + 1, 0, none⟩ = some (.int .i64 a) := by rw [hW]; simp [go_sem]
  have y1 : W.cell? ⟨w.heap.size + 1, 1, none⟩ = some (.int .i64 b) := by rw [hW]; simp [go_sem]
  have y2 : W.cell? ⟨w.heap.size + 1, 2, none⟩ = some (.string t) := by rw [hW]; simp [go_sem]
  have y3 : W.cell? ⟨w.heap.size + 1, 3, none⟩ = some (.string f) := by rw [hW]; simp [go_sem]
  have y4 : W.cell? ⟨w.heap.size + 1, 4, none⟩ = some (.int .i64 wt) := by rw [hW]; simp [go_sem]
  have y5 : W.cell? ⟨w.heap.size + 1, 5, none⟩ = some (.slice A' xs.length c') := by rw [hW]; simp [go_sem]
  have y6 : W.cell? ⟨w.heap.size + 1, 6, none⟩ = some (.int .i64 vl) := by rw [hW]; simp [go_sem]
  have HW : Below w.heap.size w W := by rw [hW]; go_grown
  clear hW
  have SL := sl.keep HW (Nat.le_refl _)
  have SL' := sl'.keep HW (Nat.le_refl _)
  refine (eqLabel_same a b t W).mono ?_
  rintro e w1 ⟨rfl, b1⟩
  have B1 := chain HW b1
  replace SL := SL.keep b1 (Nat.le_refl _)
  replace SL' := SL'.keep b1 (Nat.le_refl _)
  replace x0 := cell_keep b1 x0
  replace x1 := cell_keep b1 x1
  replace x2 := cell_keep b1 x2
  replace x3 := cell_keep b1 x3
  replace x4 := cell_keep b1 x4
  replace x5 := cell_keep b1 x5
  replace x6 := cell_keep b1 x6
  replace y0 := cell_keep b1 y0
  replace y1 := cell_keep b1 y1
  replace y2 := cell_keep b1 y2
  replace y3 := cell_keep b1 y3
  replace y4 := cell_keep b1 y4
  replace y5 := cell_keep b1 y5
  replace y6 := cell_keep b1 y6
  go_wp2_with fail
  refine (eqIntS_any xs xs _ _ _ SL SL').mono ?_
  rintro e w2 ⟨rfl, b2⟩
  have B2 := chain B1 b2
  replace x6 := cell_keep b2 x6
  replace y6 := cell_keep b2 y6
  go_wp2_with fail
  go_ret
  exact ⟨rfl, B2⟩
end Go.Proofs.YteicnjemaemijaaDoor
