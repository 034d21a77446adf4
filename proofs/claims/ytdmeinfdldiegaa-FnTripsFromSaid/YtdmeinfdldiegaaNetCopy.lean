/- How the laws measure, copy and compare a network. No condition. -/
import Derived.Test.YtdmeinfdldiegaaRecLeg
import Derived.Test.YtdmeinfdldiegaaInts
namespace Go.Proofs.Ytdmeinfdldiegaa
open Go.RowKit Go.PlainAid
set_option maxRecDepth 100000
set_option linter.unusedVariables false
theorem Own.setB {α : Type} {w : World} {base size : Nat} {e : TypeId} {vals : α → List Value} {v : Value} {xs : List α} (h : Own w base e size vals v xs) {a : Addr} (ha : a.block < base) (u : Value) : Own (w.setCell a u) base e size vals v xs :=
  ownsRow_setCell_below h ha u
theorem frozen_keep {a b : World} {p : Addr} {v : Value} (k : Below a.heap.size a b) (h : a.cell? p = some v) (hf : a.frozen? p = false) : b.frozen? p = false := (k.frozen (cell_lt h)).trans hf
def MadeN (legs : List LegD) (off : List Int) (ch : Int) (w : World) (e : Ending) (w' : World) : Prop :=
  ∃ l o, e = .returned (.agg #[l, o, .int .i64 ch]) ∧ Own w' w.heap.size 47 6 LegD.vals l legs ∧ Own w' w.heap.size 3 1 vI o off ∧ Below w.heap.size w w'
set_option maxHeartbeats 3200000 in
theorem toNet_any (legs : List LegD) (off : List Int) (ch : Int) (l o : Value) (w : World) (sl : SliceOf w 6 LegD.vals l legs) (so : SliceOf w 1 vI o off) (hn : legs.length ≤ 1048576) (hm : off.length ≤ 1048576) :
    Calls Try.prog 7 #[.agg #[l, o, .int .i64 ch]] w (MadeN legs off ch w) := by
  obtain ⟨A, c, rfl, -, -⟩ := sl.form
  obtain ⟨A', c', rfl, -, -⟩ := so.form
  go_enter Try.func7, Try.ntmps7
  go_wp2_with fail
  obtain ⟨W, hW⟩ : ∃ W, W = ((w.alloc (.cells #[.slice A legs.length c, .slice A' off.length c', .int .i64 ch] 25)).alloc (.cells #[.slice none 0 0, .slice none 0 0, .int .i64 0] 31)).alloc (.cells #[.slice none 0 0, .slice none 0 0, .int .i64 0] 31) := ⟨_, rfl⟩
  rw [← hW]
  have x1 : W.cell? ⟨w.heap.size, 1, none⟩ = some (.slice A' off.length c') := by rw [hW]; simp [go_sem]
  have x2 : W.cell? ⟨w.heap.size, 2, none⟩ = some (.int .i64 ch) := by rw [hW]; simp [go_sem]
  have y0 : W.cell? ⟨w.heap.size + 1, 0, none⟩ = some (.slice none 0 0) := by rw [hW]; simp [go_sem]
  have y1 : W.cell? ⟨w.heap.size + 1, 1, none⟩ = some (.slice none 0 0) := by rw [hW]; simp [go_sem]
  have y2 : W.cell? ⟨w.heap.size + 1, 2, none⟩ = some (.int .i64 0) := by rw [hW]; simp [go_sem]
  have z0 : W.cell? ⟨w.heap.size + 1 + 1, 0, none⟩ = some (.slice none 0 0) := by rw [hW]; simp [go_sem]
  have z1 : W.cell? ⟨w.heap.size + 1 + 1, 1, none⟩ = some (.slice none 0 0) := by rw [hW]; simp [go_sem]
  have z2 : W.cell? ⟨w.heap.size + 1 + 1, 2, none⟩ = some (.int .i64 0) := by rw [hW]; simp [go_sem]
  have fy : ∀ j, W.frozen? ⟨w.heap.size + 1, j, none⟩ = false := fun j => by rw [hW]; simp [go_sem]
  have fz : ∀ j, W.frozen? ⟨w.heap.size + 1 + 1, j, none⟩ = false := fun j => by rw [hW]; simp [go_sem]
  have HW : Below w.heap.size w W := by rw [hW]; go_grown
  have hs : W.heap.size = w.heap.size + 3 := by rw [hW]; simp
  have SL := sl.keep HW (Nat.le_refl _)
  have HS := Lib.hid hs
  have HSO := Lib.hid so
  clear hW sl so hs
  refine (toLegS_any legs _ _ SL hn).mono ?_
  rintro e w1 ⟨v1, rfl, o1, b1⟩
  obtain ⟨A1, c1, rfl, -, -⟩ := o1.form
  have B1 := chain HW b1
  replace x1 := cell_keep b1 x1
  replace x2 := cell_keep b1 x2
  have fy1 : ∀ j, w1.frozen? ⟨w.heap.size + 1, j, none⟩ = false := fun j => (b1.frozen (p := ⟨w.heap.size + 1, j, none⟩) (by rw [HS.out]; simp)).trans (fy j)
  have fz1 : ∀ j, w1.frozen? ⟨w.heap.size + 1 + 1, j, none⟩ = false := fun j => (b1.frozen (p := ⟨w.heap.size + 1 + 1, j, none⟩) (by rw [HS.out]; simp)).trans (fz j)
  replace y0 := cell_keep b1 y0
  replace y1 := cell_keep b1 y1
  replace y2 := cell_keep b1 y2
  replace z0 := cell_keep b1 z0
  replace z1 := cell_keep b1 z1
  replace z2 := cell_keep b1 z2
  clear fy fz SL
  go_wp2_with fail
  obtain ⟨W1, hW1⟩ : ∃ W1, W1 = w1.setCell ⟨w.heap.size + 1 + 1, 0, none⟩ (.slice A1 legs.length c1) := ⟨_, rfl⟩
  rw [← hW1]
  have X1 : W1.cell? ⟨w.heap.size, 1, none⟩ = some (.slice A' off.length c') := by rw [hW1]; simp [go_sem, x1]
  have X2 : W1.cell? ⟨w.heap.size, 2, none⟩ = some (.int .i64 ch) := by rw [hW1]; simp [go_sem, x2]
  have Y0 : W1.cell? ⟨w.heap.size + 1, 0, none⟩ = some (.slice none 0 0) := by rw [hW1]; simp [go_sem, y0]
  have Y1 : W1.cell? ⟨w.heap.size + 1, 1, none⟩ = some (.slice none 0 0) := by rw [hW1]; simp [go_sem, y1]
  have Y2 : W1.cell? ⟨w.heap.size + 1, 2, none⟩ = some (.int .i64 0) := by rw [hW1]; simp [go_sem, y2]
  have Z0 : W1.cell? ⟨w.heap.size + 1 + 1, 0, none⟩ = some (.slice A1 legs.length c1) := by rw [hW1]; exact World.cell?_setCell_same _ _ _ z0
  have Z1 : W1.cell? ⟨w.heap.size + 1 + 1, 1, none⟩ = some (.slice none 0 0) := by rw [hW1]; simp [go_sem, z1]
  have Z2 : W1.cell? ⟨w.heap.size + 1 + 1, 2, none⟩ = some (.int .i64 0) := by rw [hW1]; simp [go_sem, z2]
  have FY : ∀ j, W1.frozen? ⟨w.heap.size + 1, j, none⟩ = false := fun j => by rw [hW1]; simp [go_sem, fy1]
  have FZ : ∀ j, W1.frozen? ⟨w.heap.size + 1 + 1, j, none⟩ = false := fun j => by rw [hW1]; simp [go_sem, fz1]
  have O1 : Own W1 W.heap.size 47 6 LegD.vals (.slice A1 legs.length c1) legs := by rw [hW1]; exact o1.setB (by have := HS.out; simp only; omega) _
  have BB : Below w.heap.size w W1 := by rw [hW1]; exact B1.setCell (by simp only; omega) _
  clear hW1 x1 x2 y0 y1 y2 z0 z1 z2 fy1 fz1 o1 b1 B1
  refine (toIntS_any off _ _ (HSO.out.keep BB (Nat.le_refl _)) hm).mono ?_
  rintro e w2 ⟨v2, rfl, o2, b2⟩
  obtain ⟨A2, c2, rfl, -, -⟩ := o2.form
  have B2 := chain BB b2
  replace O1 := O1.keep b2 (Nat.le_refl _)
  have lt1 := cell_lt Z0
  have fy2 : ∀ j, w2.frozen? ⟨w.heap.size + 1, j, none⟩ = false := fun j => (b2.frozen (p := ⟨w.heap.size + 1, j, none⟩) (by simp at lt1 ⊢; omega)).trans (FY j)
  have fz2 : ∀ j, w2.frozen? ⟨w.heap.size + 1 + 1, j, none⟩ = false := fun j => (b2.frozen (p := ⟨w.heap.size + 1 + 1, j, none⟩) (by simp at lt1 ⊢; omega)).trans (FZ j)
  have lt2 : w.heap.size + 2 < W1.heap.size := by simpa using lt1
  replace X2 := cell_keep b2 X2
  replace Y0 := cell_keep b2 Y0
  replace Y1 := cell_keep b2 Y1
  replace Y2 := cell_keep b2 Y2
  replace Z0 := cell_keep b2 Z0
  replace Z1 := cell_keep b2 Z1
  replace Z2 := cell_keep b2 Z2
  clear X1 FY FZ lt1 BB b2
  go_wp2
  refine bodyPost_ret (v := .agg #[.slice A1 legs.length c1, .slice A2 off.length c2, .int .i64 ch]) (by simp [results, Try.results7, go_sem, Y0, Y1, Y2]) rfl ⟨_, _, rfl, ?_, ?_, ?_⟩
  · refine Own.mono (base := W.heap.size) ?_ (by rw [HS.out]; omega)
    exact (((((O1.setB (by have := HS.out; simp only; omega) _).setB (by have := HS.out; simp only; omega) _).setB (by have := HS.out; simp only; omega) _).setB (by have := HS.out; simp only; omega) _).setB (by have := HS.out; simp only; omega) _)
  · refine Own.mono (base := W1.heap.size) ?_ (by omega)
    exact (((((o2.setB (by simp only; omega) _).setB (by simp only; omega) _).setB (by simp only; omega) _).setB (by simp only; omega) _).setB (by simp only; omega) _)
  · exact (((((B2.setCell (by simp only; omega) _).setCell (by simp only; omega) _).setCell (by simp only; omega) _).setCell (by simp only; omega) _).setCell (by simp only; omega) _)
theorem szIntS_any (xs : List Int) (left : Int) (v : Value) (w : World) (h : SliceOf w 1 vI v xs) (hl : 0 ≤ left) (hl2 : left ≤ 1048576) : Calls Try.prog 21 #[v, .int .i64 left] w (SzsPost xs.length left w) := by
  obtain ⟨A, c, rfl, hle, hm⟩ := h.form
  unfold maxLen at hm
  by_cases hb : left < xs.length
  · go_enter Try.func21, Try.ntmps21
    go_wp2
    go_ret
    exact ⟨_, rfl, by omega, by omega, by omega, Below.refl _ _⟩
  · go_enter Try.func21, Try.ntmps21
    go_wp2
    go_ret
    exact ⟨_, rfl, by omega, by omega, by omega, Below.refl _ _⟩
def SznPost (a b : Nat) (left : Int) (w : World) (e : Ending) (w' : World) : Prop := ∃ r : Int, e = .returned (.int .i64 r) ∧ -1 ≤ r ∧ r ≤ left ∧ (0 ≤ r → (a : Int) ≤ left ∧ (b : Int) ≤ left) ∧ Below w.heap.size w w'
set_option maxHeartbeats 1600000 in
theorem szNet_any (legs : List LegD) (off : List Int) (ch left : Int) (l o : Value) (w : World) (hok : ∀ x ∈ legs, x.ok) (sl : SliceOf w 6 LegD.vals l legs) (so : SliceOf w 1 vI o off) (hl : 0 ≤ left) (hl2 : left ≤ 1048576) :
    Calls Try.prog 5 #[.agg #[l, o, .int .i64 ch], .int .i64 left] w (SznPost legs.length off.length left w) := by
  obtain ⟨A, c, rfl, -, -⟩ := sl.form
  obtain ⟨A', c', rfl, -, -⟩ := so.form
  go_enter Try.func5, Try.ntmps5
  go_wp2_with fail
  obtain ⟨W, hW⟩ : ∃ W, W = w.alloc (.cells #[.slice A legs.length c, .slice A' off.length c', .int .i64 ch] 25) := ⟨_, rfl⟩
  rw [← hW]
  have x1 : W.cell? ⟨w.heap.size, 1, none⟩ = some (.slice A' off.length c') := by rw [hW]; simp [go_sem]
  have HW : Below w.heap.size w W := by rw [hW]; go_grown
  have SL := sl.keep HW (Nat.le_refl _)
  clear hW
  refine (szLegS_any legs _ _ _ hok SL hl hl2).mono ?_
  rintro e w1 ⟨r, rfl, r1, r2, r3, b1⟩
  have B1 := chain HW b1
  have y1 := cell_keep b1 x1
  by_cases hr : r < 0
  · go_wp2_with fail
    go_ret
    exact ⟨_, rfl, by omega, by omega, by omega, B1⟩
  go_wp2_with fail
  refine (szIntS_any off _ _ _ (so.keep B1 (Nat.le_refl _)) (by omega) (by omega)).mono ?_
  rintro e w2 ⟨q, rfl, q1, q2, q3, b2⟩
  have B2 := chain B1 b2
  by_cases hq : q < 0
  · go_wp2_with fail
    go_ret
    exact ⟨_, rfl, by omega, by omega, by omega, B2⟩
  · go_wp2_with fail
    go_ret
    exact ⟨_, rfl, by omega, by omega, fun _ => ⟨r3 (by omega), by have := q3 (by omega); omega⟩, B2⟩
set_option maxHeartbeats 1600000 in
theorem eqNet_same (legs : List LegD) (off : List Int) (ch : Int) (l o l' o' : Value) (w : World) (sl : SliceOf w 6 LegD.vals l legs) (so : SliceOf w 1 vI o off) (sl' : SliceOf w 6 LegD.vals l' legs) (so' : SliceOf w 1 vI o' off) :
    Calls Try.prog 10 #[.agg #[l, o, .int .i64 ch], .agg #[l', o', .int .i64 ch]] w fun e w' => e = .returned (.bool true) ∧ Below w.heap.size w w' := by
  obtain ⟨A, c, rfl, -, -⟩ := sl.form
  obtain ⟨A', c', rfl, -, -⟩ := so.form
  obtain ⟨A1, c1, rfl, -, -⟩ := sl'.form
  obtain ⟨A1', c1', rfl, -, -⟩ := so'.form
  go_enter Try.func10, Try.ntmps10
  go_wp2_with fail
  obtain ⟨W, hW⟩ : ∃ W, W = (w.alloc (.cells #[.slice A legs.length c, .slice A' off.length c', .int .i64 ch] 31)).alloc (.cells #[.slice A1 legs.length c1, .slice A1' off.length c1', .int .i64 ch] 31) := ⟨_, rfl⟩
  try rw [← hW]
  have x0 : W.cell? ⟨w.heap.size, 0, none⟩ = some (.slice A legs.length c) := by rw [hW]; simp [go_sem]
  have x1 : W.cell? ⟨w.heap.size, 1, none⟩ = some (.slice A' off.length c') := by rw [hW]; simp [go_sem]
  have x2 : W.cell? ⟨w.heap.size, 2, none⟩ = some (.int .i64 ch) := by rw [hW]; simp [go_sem]
  have y0 : W.cell? ⟨w.heap.size + 1, 0, none⟩ = some (.slice A1 legs.length c1) := by rw [hW]; simp [go_sem]
  have y1 : W.cell? ⟨w.heap.size + 1, 1, none⟩ = some (.slice A1' off.length c1') := by rw [hW]; simp [go_sem]
  have y2 : W.cell? ⟨w.heap.size + 1, 2, none⟩ = some (.int .i64 ch) := by rw [hW]; simp [go_sem]
  have HW : Below w.heap.size w W := by rw [hW]; go_grown
  have SL := sl.keep HW (Nat.le_refl _)
  have SL' := sl'.keep HW (Nat.le_refl _)
  clear hW
  go_wp2_with fail
  refine (eqLegS_same legs _ _ _ SL SL').mono ?_
  rintro e w1 ⟨rfl, b1⟩
  have B1 := chain HW b1
  replace x1 := cell_keep b1 x1
  replace x2 := cell_keep b1 x2
  replace y1 := cell_keep b1 y1
  replace y2 := cell_keep b1 y2
  go_wp2_with fail
  refine (eqIntS_any off off _ _ _ (so.keep B1 (Nat.le_refl _)) (so'.keep B1 (Nat.le_refl _))).mono ?_
  rintro e w2 ⟨rfl, b2⟩
  have B2 := chain B1 b2
  replace x2 := cell_keep b2 x2
  replace y2 := cell_keep b2 y2
  go_wp2_with fail
  go_ret
  exact ⟨rfl, B2⟩
end Go.Proofs.Ytdmeinfdldiegaa
