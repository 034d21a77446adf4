/- What IsParcel and ChargeWeight answer: the program's and the reference's alike. No condition. -/
import Derived.Test.YteicnjemaemijaaGreatDoorGirth
import Derived.Test.YteicnjemaemijaaGreatDoorLabel
import Derived.Deep.RegionHeld3
namespace Go.Proofs.YteicnjemaemijaaGreatDoor
open Go.RowKit Go.PlainAid
set_option maxRecDepth 100000
set_option linter.unusedVariables false
def parB (a b : Int) (t f : ByteArray) (wt : Int) (xs : List Int) (vl : Int) : Bool := labB a b t && plc f && !(f.toList == t.toList) && rng wt 1 30000 && three xs && decide (girth xs ≤ 3600) && rng vl 0 500000
/-- What a parcel is charged as. -/
def chargeW (a b : Int) (t f : ByteArray) (wt : Int) (xs : List Int) (vl : Int) : Int := if parB a b t f wt xs vl then max wt ((vol xs + 4999) / 5000) else 0
theorem three_vol {xs : List Int} (h : three xs = true) : 1 ≤ vol xs ∧ vol xs ≤ 8000000000 := by
  obtain ⟨x, y, z, rfl, hx, hy, hz⟩ := three_of h
  have e : vol [x, y, z] = x * y * z := by unfold vol; rw [h]; rfl
  rw [e]
  exact mul_le3 (mul_le2 hx hy) hz
theorem three_girth {xs : List Int} (h : three xs = true) : 5 ≤ girth xs ∧ girth xs ≤ 10000 := by
  obtain ⟨p, q, r, e, h1, h2, h3, h4, -⟩ := three_sorted h
  have : girth xs = p + 2 * q + 2 * r := by unfold girth; rw [h, e]; rfl
  omega
theorem parB_three {a b : Int} {t f : ByteArray} {wt : Int} {xs : List Int} {vl : Int} (h : parB a b t f wt xs vl = true) : three xs = true ∧ 1 ≤ wt ∧ wt ≤ 30000 := by
  unfold parB at h
  simp only [Bool.and_eq_true] at h
  have := rng_iff.1 h.1.1.1.2
  exact ⟨h.1.1.2, this.1, this.2⟩
set_option maxHeartbeats 3200000 in
theorem isParcelI (a b : Int) (t f : ByteArray) (wt : Int) (xs : List Int) (vl : Int) (V : Value) (w : World) (ht : t.size ≤ maxLen) (hf : f.size ≤ maxLen) (sl : SliceOf w 1 vI V xs) :
    Calls Tryz.prog 13 #[.agg #[.int .i64 a, .int .i64 b, .string t, .string f, .int .i64 wt, V, .int .i64 vl]] w fun e w' => e = .returned (.bool (parB a b t f wt xs vl)) ∧ Below w.heap.size w w' := by
  obtain ⟨A, c, rfl, -, -⟩ := sl.form
  cases q0 : labB a b t
  · have HV : Hid (parB a b t f wt xs vl = false) := Lib.hid (by unfold parB; rw [q0]; simp)
    go_enter Tryz.func13, Tryz.ntmps13
    go_wp2_with fail
    obtain ⟨W, hW⟩ : ∃ W, W = w.alloc (.cells #[.int .i64 a, .int .i64 b, .string t, .string f, .int .i64 wt, .slice A xs.length c, .int .i64 vl] 26) := ⟨_, rfl⟩
    rw [← hW]
    have z0 : W.cell? ⟨w.heap.size, 0, none⟩ = some (.int .i64 a) := by rw [hW]; simp [go_sem]
    have z1 : W.cell? ⟨w.heap.size, 1, none⟩ = some (.int .i64 b) := by rw [hW]; simp [go_sem]
    have z2 : W.cell? ⟨w.heap.size, 2, none⟩ = some (.string t) := by rw [hW]; simp [go_sem]
    have z3 : W.cell? ⟨w.heap.size, 3, none⟩ = some (.string f) := by rw [hW]; simp [go_sem]
    have z4 : W.cell? ⟨w.heap.size, 4, none⟩ = some (.int .i64 wt) := by rw [hW]; simp [go_sem]
    have z5 : W.cell? ⟨w.heap.size, 5, none⟩ = some (.slice A xs.length c) := by rw [hW]; simp [go_sem]
    have z6 : W.cell? ⟨w.heap.size, 6, none⟩ = some (.int .i64 vl) := by rw [hW]; simp [go_sem]
    have B0 : Below w.heap.size w W := by rw [hW]; go_grown
    clear hW
    refine (isLabelI a b t _ ht).mono ?_
    rintro e w1 ⟨rfl, b1⟩
    have B1 := chain B0 b1
    replace z0 := cell_keep b1 z0
    replace z1 := cell_keep b1 z1
    replace z2 := cell_keep b1 z2
    replace z3 := cell_keep b1 z3
    replace z4 := cell_keep b1 z4
    replace z5 := cell_keep b1 z5
    replace z6 := cell_keep b1 z6
    rw [q0]
    go_wp2_with (first | (go_at_call 33; refine (isPlaceI _ _ hf).mono ?_; rintro e w' ⟨rfl, rfl⟩) | (go_at_call 34; refine (within_any _ _ _ _).mono ?_; rintro e w' ⟨rfl, rfl⟩))
    go_ret
    exact ⟨ret_bool HV.out.symm, B1⟩
  cases q1 : plc f
  · have HV : Hid (parB a b t f wt xs vl = false) := Lib.hid (by unfold parB; rw [q1]; simp)
    go_enter Tryz.func13, Tryz.ntmps13
    go_wp2_with fail
    obtain ⟨W, hW⟩ : ∃ W, W = w.alloc (.cells #[.int .i64 a, .int .i64 b, .string t, .string f, .int .i64 wt, .slice A xs.length c, .int .i64 vl] 26) := ⟨_, rfl⟩
    rw [← hW]
    have z0 : W.cell? ⟨w.heap.size, 0, none⟩ = some (.int .i64 a) := by rw [hW]; simp [go_sem]
    have z1 : W.cell? ⟨w.heap.size, 1, none⟩ = some (.int .i64 b) := by rw [hW]; simp [go_sem]
    have z2 : W.cell? ⟨w.heap.size, 2, none⟩ = some (.string t) := by rw [hW]; simp [go_sem]
    have z3 : W.cell? ⟨w.heap.size, 3, none⟩ = some (.string f) := by rw [hW]; simp [go_sem]
    have z4 : W.cell? ⟨w.heap.size, 4, none⟩ = some (.int .i64 wt) := by rw [hW]; simp [go_sem]
    have z5 : W.cell? ⟨w.heap.size, 5, none⟩ = some (.slice A xs.length c) := by rw [hW]; simp [go_sem]
    have z6 : W.cell? ⟨w.heap.size, 6, none⟩ = some (.int .i64 vl) := by rw [hW]; simp [go_sem]
    have B0 : Below w.heap.size w W := by rw [hW]; go_grown
    clear hW
    refine (isLabelI a b t _ ht).mono ?_
    rintro e w1 ⟨rfl, b1⟩
    have B1 := chain B0 b1
    replace z0 := cell_keep b1 z0
    replace z1 := cell_keep b1 z1
    replace z2 := cell_keep b1 z2
    replace z3 := cell_keep b1 z3
    replace z4 := cell_keep b1 z4
    replace z5 := cell_keep b1 z5
    replace z6 := cell_keep b1 z6
    rw [q0]
    go_wp2_with (first | (go_at_call 33; refine (isPlaceI _ _ hf).mono ?_; rintro e w' ⟨rfl, rfl⟩) | (go_at_call 34; refine (within_any _ _ _ _).mono ?_; rintro e w' ⟨rfl, rfl⟩))
    go_ret
    exact ⟨ret_bool HV.out.symm, B1⟩
  cases q2 : (f.toList == t.toList)
  rotate_left
  · have HV : Hid (parB a b t f wt xs vl = false) := Lib.hid (by unfold parB; rw [q2]; simp)
    have ne : (f.toList != t.toList) = false := by rw [bne, q2]; rfl
    go_enter Tryz.func13, Tryz.ntmps13
    go_wp2_with fail
    obtain ⟨W, hW⟩ : ∃ W, W = w.alloc (.cells #[.int .i64 a, .int .i64 b, .string t, .string f, .int .i64 wt, .slice A xs.length c, .int .i64 vl] 26) := ⟨_, rfl⟩
    rw [← hW]
    have z0 : W.cell? ⟨w.heap.size, 0, none⟩ = some (.int .i64 a) := by rw [hW]; simp [go_sem]
    have z1 : W.cell? ⟨w.heap.size, 1, none⟩ = some (.int .i64 b) := by rw [hW]; simp [go_sem]
    have z2 : W.cell? ⟨w.heap.size, 2, none⟩ = some (.string t) := by rw [hW]; simp [go_sem]
    have z3 : W.cell? ⟨w.heap.size, 3, none⟩ = some (.string f) := by rw [hW]; simp [go_sem]
    have z4 : W.cell? ⟨w.heap.size, 4, none⟩ = some (.int .i64 wt) := by rw [hW]; simp [go_sem]
    have z5 : W.cell? ⟨w.heap.size, 5, none⟩ = some (.slice A xs.length c) := by rw [hW]; simp [go_sem]
    have z6 : W.cell? ⟨w.heap.size, 6, none⟩ = some (.int .i64 vl) := by rw [hW]; simp [go_sem]
    have B0 : Below w.heap.size w W := by rw [hW]; go_grown
    clear hW
    refine (isLabelI a b t _ ht).mono ?_
    rintro e w1 ⟨rfl, b1⟩
    have B1 := chain B0 b1
    replace z0 := cell_keep b1 z0
    replace z1 := cell_keep b1 z1
    replace z2 := cell_keep b1 z2
    replace z3 := cell_keep b1 z3
    replace z4 := cell_keep b1 z4
    replace z5 := cell_keep b1 z5
    replace z6 := cell_keep b1 z6
    rw [q0]
    go_wp2_with (first | (go_at_call 33; refine (isPlaceI _ _ hf).mono ?_; rintro e w' ⟨rfl, rfl⟩) | (go_at_call 34; refine (within_any _ _ _ _).mono ?_; rintro e w' ⟨rfl, rfl⟩))
    go_ret
    exact ⟨ret_bool HV.out.symm, B1⟩
  cases q3 : rng wt 1 30000
  · have HV : Hid (parB a b t f wt xs vl = false) := Lib.hid (by unfold parB; rw [q3]; simp)
    have ne : (f.toList != t.toList) = true := by rw [bne, q2]; rfl
    go_enter Tryz.func13, Tryz.ntmps13
    go_wp2_with fail
    obtain ⟨W, hW⟩ : ∃ W, W = w.alloc (.cells #[.int .i64 a, .int .i64 b, .string t, .string f, .int .i64 wt, .slice A xs.length c, .int .i64 vl] 26) := ⟨_, rfl⟩
    rw [← hW]
    have z0 : W.cell? ⟨w.heap.size, 0, none⟩ = some (.int .i64 a) := by rw [hW]; simp [go_sem]
    have z1 : W.cell? ⟨w.heap.size, 1, none⟩ = some (.int .i64 b) := by rw [hW]; simp [go_sem]
    have z2 : W.cell? ⟨w.heap.size, 2, none⟩ = some (.string t) := by rw [hW]; simp [go_sem]
    have z3 : W.cell? ⟨w.heap.size, 3, none⟩ = some (.string f) := by rw [hW]; simp [go_sem]
    have z4 : W.cell? ⟨w.heap.size, 4, none⟩ = some (.int .i64 wt) := by rw [hW]; simp [go_sem]
    have z5 : W.cell? ⟨w.heap.size, 5, none⟩ = some (.slice A xs.length c) := by rw [hW]; simp [go_sem]
    have z6 : W.cell? ⟨w.heap.size, 6, none⟩ = some (.int .i64 vl) := by rw [hW]; simp [go_sem]
    have B0 : Below w.heap.size w W := by rw [hW]; go_grown
    clear hW
    refine (isLabelI a b t _ ht).mono ?_
    rintro e w1 ⟨rfl, b1⟩
    have B1 := chain B0 b1
    replace z0 := cell_keep b1 z0
    replace z1 := cell_keep b1 z1
    replace z2 := cell_keep b1 z2
    replace z3 := cell_keep b1 z3
    replace z4 := cell_keep b1 z4
    replace z5 := cell_keep b1 z5
    replace z6 := cell_keep b1 z6
    rw [q0]
    go_wp2_with (first | (go_at_call 33; refine (isPlaceI _ _ hf).mono ?_; rintro e w' ⟨rfl, rfl⟩) | (go_at_call 34; refine (within_any _ _ _ _).mono ?_; rintro e w' ⟨rfl, rfl⟩))
    go_ret
    exact ⟨ret_bool HV.out.symm, B1⟩
  cases q4 : three xs
  · have HV : Hid (parB a b t f wt xs vl = false) := Lib.hid (by unfold parB; rw [q4]; simp)
    have ne : (f.toList != t.toList) = true := by rw [bne, q2]; rfl
    have T0 := fun (W : World) (hW : Below w.heap.size w W) => threeI xs _ W (sl.keep hW (Nat.le_refl _))
    rw [q4] at T0
    go_enter Tryz.func13, Tryz.ntmps13
    go_wp2_with fail
    obtain ⟨W, hW⟩ : ∃ W, W = w.alloc (.cells #[.int .i64 a, .int .i64 b, .string t, .string f, .int .i64 wt, .slice A xs.length c, .int .i64 vl] 26) := ⟨_, rfl⟩
    rw [← hW]
    have z0 : W.cell? ⟨w.heap.size, 0, none⟩ = some (.int .i64 a) := by rw [hW]; simp [go_sem]
    have z1 : W.cell? ⟨w.heap.size, 1, none⟩ = some (.int .i64 b) := by rw [hW]; simp [go_sem]
    have z2 : W.cell? ⟨w.heap.size, 2, none⟩ = some (.string t) := by rw [hW]; simp [go_sem]
    have z3 : W.cell? ⟨w.heap.size, 3, none⟩ = some (.string f) := by rw [hW]; simp [go_sem]
    have z4 : W.cell? ⟨w.heap.size, 4, none⟩ = some (.int .i64 wt) := by rw [hW]; simp [go_sem]
    have z5 : W.cell? ⟨w.heap.size, 5, none⟩ = some (.slice A xs.length c) := by rw [hW]; simp [go_sem]
    have z6 : W.cell? ⟨w.heap.size, 6, none⟩ = some (.int .i64 vl) := by rw [hW]; simp [go_sem]
    have B0 : Below w.heap.size w W := by rw [hW]; go_grown
    clear hW
    refine (isLabelI a b t _ ht).mono ?_
    rintro e w1 ⟨rfl, b1⟩
    have B1 := chain B0 b1
    replace z0 := cell_keep b1 z0
    replace z1 := cell_keep b1 z1
    replace z2 := cell_keep b1 z2
    replace z3 := cell_keep b1 z3
    replace z4 := cell_keep b1 z4
    replace z5 := cell_keep b1 z5
    replace z6 := cell_keep b1 z6
    rw [q0]
    go_wp2_with (first | (go_at_call 33; refine (isPlaceI _ _ hf).mono ?_; rintro e w' ⟨rfl, rfl⟩) | (go_at_call 34; refine (within_any _ _ _ _).mono ?_; rintro e w' ⟨rfl, rfl⟩) | (go_at_call 35; refine (T0 _ B1).mono ?_; rintro e w' ⟨rfl, rfl⟩))
    go_ret
    exact ⟨ret_bool HV.out.symm, B1⟩
  cases q5 : decide (girth xs ≤ 3600)
  · have HV : Hid (parB a b t f wt xs vl = false) := Lib.hid (by unfold parB; rw [q5]; simp)
    have ne : (f.toList != t.toList) = true := by rw [bne, q2]; rfl
    have G0 := fun (W : World) (hW : Below w.heap.size w W) => girthI xs _ W (sl.keep hW (Nat.le_refl _))
    obtain ⟨gv, hgv⟩ : ∃ gv, gv = girth xs := ⟨_, rfl⟩
    rw [← hgv] at q5
    simp only [← hgv] at G0
    clear hgv
    have T0 := fun (W : World) (hW : Below w.heap.size w W) => threeI xs _ W (sl.keep hW (Nat.le_refl _))
    rw [q4] at T0
    go_enter Tryz.func13, Tryz.ntmps13
    go_wp2_with fail
    obtain ⟨W, hW⟩ : ∃ W, W = w.alloc (.cells #[.int .i64 a, .int .i64 b, .string t, .string f, .int .i64 wt, .slice A xs.length c, .int .i64 vl] 26) := ⟨_, rfl⟩
    rw [← hW]
    have z0 : W.cell? ⟨w.heap.size, 0, none⟩ = some (.int .i64 a) := by rw [hW]; simp [go_sem]
    have z1 : W.cell? ⟨w.heap.size, 1, none⟩ = some (.int .i64 b) := by rw [hW]; simp [go_sem]
    have z2 : W.cell? ⟨w.heap.size, 2, none⟩ = some (.string t) := by rw [hW]; simp [go_sem]
    have z3 : W.cell? ⟨w.heap.size, 3, none⟩ = some (.string f) := by rw [hW]; simp [go_sem]
    have z4 : W.cell? ⟨w.heap.size, 4, none⟩ = some (.int .i64 wt) := by rw [hW]; simp [go_sem]
    have z5 : W.cell? ⟨w.heap.size, 5, none⟩ = some (.slice A xs.length c) := by rw [hW]; simp [go_sem]
    have z6 : W.cell? ⟨w.heap.size, 6, none⟩ = some (.int .i64 vl) := by rw [hW]; simp [go_sem]
    have B0 : Below w.heap.size w W := by rw [hW]; go_grown
    clear hW
    refine (isLabelI a b t _ ht).mono ?_
    rintro e w1 ⟨rfl, b1⟩
    have B1 := chain B0 b1
    replace z0 := cell_keep b1 z0
    replace z1 := cell_keep b1 z1
    replace z2 := cell_keep b1 z2
    replace z3 := cell_keep b1 z3
    replace z4 := cell_keep b1 z4
    replace z5 := cell_keep b1 z5
    replace z6 := cell_keep b1 z6
    rw [q0]
    go_wp2_with (first | (go_at_call 33; refine (isPlaceI _ _ hf).mono ?_; rintro e w' ⟨rfl, rfl⟩) | (go_at_call 34; refine (within_any _ _ _ _).mono ?_; rintro e w' ⟨rfl, rfl⟩) | (go_at_call 35; refine (T0 _ B1).mono ?_; rintro e w' ⟨rfl, rfl⟩))
    refine (G0 _ B1).mono ?_
    rintro e w2 ⟨rfl, b2⟩
    have B2 := chain B1 b2
    replace z6 := cell_keep b2 z6
    go_wp2_with (first | (go_at_call 33; refine (isPlaceI _ _ hf).mono ?_; rintro e w' ⟨rfl, rfl⟩) | (go_at_call 34; refine (within_any _ _ _ _).mono ?_; rintro e w' ⟨rfl, rfl⟩) | (go_at_call 35; refine (T0 _ B1).mono ?_; rintro e w' ⟨rfl, rfl⟩))
    go_ret
    exact ⟨ret_bool HV.out.symm, B2⟩
  have HV : Hid (parB a b t f wt xs vl = rng vl 0 500000) := Lib.hid (by unfold parB; rw [q0]; rw [q1]; rw [q2]; rw [q3]; rw [q4]; rw [q5]; simp)
  have ne : (f.toList != t.toList) = true := by rw [bne, q2]; rfl
  have G0 := fun (W : World) (hW : Below w.heap.size w W) => girthI xs _ W (sl.keep hW (Nat.le_refl _))
  obtain ⟨gv, hgv⟩ : ∃ gv, gv = girth xs := ⟨_, rfl⟩
  rw [← hgv] at q5
  simp only [← hgv] at G0
  clear hgv
  have T0 := fun (W : World) (hW : Below w.heap.size w W) => threeI xs _ W (sl.keep hW (Nat.le_refl _))
  rw [q4] at T0
  go_enter Tryz.func13, Tryz.ntmps13
  go_wp2_with fail
  obtain ⟨W, hW⟩ : ∃ W, W = w.alloc (.cells #[.int .i64 a, .int .i64 b, .string t, .string f, .int .i64 wt, .slice A xs.length c, .int .i64 vl] 26) := ⟨_, rfl⟩
  rw [← hW]
  have z0 : W.cell? ⟨w.heap.size, 0, none⟩ = some (.int .i64 a) := by rw [hW]; simp [go_sem]
  have z1 : W.cell? ⟨w.heap.size, 1, none⟩ = some (.int .i64 b) := by rw [hW]; simp [go_sem]
  have z2 : W.cell? ⟨w.heap.size, 2, none⟩ = some (.string t) := by rw [hW]; simp [go_sem]
  have z3 : W.cell? ⟨w.heap.size, 3, none⟩ = some (.string f) := by rw [hW]; simp [go_sem]
  have z4 : W.cell? ⟨w.heap.size, 4, none⟩ = some (.int .i64 wt) := by rw [hW]; simp [go_sem]
  have z5 : W.cell? ⟨w.heap.size, 5, none⟩ = some (.slice A xs.length c) := by rw [hW]; simp [go_sem]
  have z6 : W.cell? ⟨w.heap.size, 6, none⟩ = some (.int .i64 vl) := by rw [hW]; simp [go_sem]
  have B0 : Below w.heap.size w W := by rw [hW]; go_grown
  clear hW
  refine (isLabelI a b t _ ht).mono ?_
  rintro e w1 ⟨rfl, b1⟩
  have B1 := chain B0 b1
  replace z0 := cell_keep b1 z0
  replace z1 := cell_keep b1 z1
  replace z2 := cell_keep b1 z2
  replace z3 := cell_keep b1 z3
  replace z4 := cell_keep b1 z4
  replace z5 := cell_keep b1 z5
  replace z6 := cell_keep b1 z6
  rw [q0]
  go_wp2_with (first | (go_at_call 33; refine (isPlaceI _ _ hf).mono ?_; rintro e w' ⟨rfl, rfl⟩) | (go_at_call 34; refine (within_any _ _ _ _).mono ?_; rintro e w' ⟨rfl, rfl⟩) | (go_at_call 35; refine (T0 _ B1).mono ?_; rintro e w' ⟨rfl, rfl⟩))
  refine (G0 _ B1).mono ?_
  rintro e w2 ⟨rfl, b2⟩
  have B2 := chain B1 b2
  replace z6 := cell_keep b2 z6
  go_wp2_with (first | (go_at_call 33; refine (isPlaceI _ _ hf).mono ?_; rintro e w' ⟨rfl, rfl⟩) | (go_at_call 34; refine (within_any _ _ _ _).mono ?_; rintro e w' ⟨rfl, rfl⟩) | (go_at_call 35; refine (T0 _ B1).mono ?_; rintro e w' ⟨rfl, rfl⟩))
  go_ret
  exact ⟨ret_bool HV.out.symm, B2⟩
set_option maxHeartbeats 3200000 in
theorem isParcelS (a b : Int) (t f : ByteArray) (wt : Int) (xs : List Int) (vl : Int) (V : Value) (w : World) (ht : t.size ≤ maxLen) (hf : f.size ≤ maxLen) (sl : SliceOf w 1 vI V xs) :
    Calls Tryz.prog 14 #[.agg #[.int .i64 a, .int .i64 b, .string t, .string f, .int .i64 wt, V, .int .i64 vl]] w fun e w' => e = .returned (.bool (parB a b t f wt xs vl)) ∧ Below w.heap.size w w' := by
  obtain ⟨A, c, rfl, -, -⟩ := sl.form
  cases q0 : labB a b t
  · have HV : Hid (parB a b t f wt xs vl = false) := Lib.hid (by unfold parB; rw [q0]; simp)
    go_enter Tryz.func14, Tryz.ntmps14
    go_wp2_with fail
    obtain ⟨W, hW⟩ : ∃ W, W = w.alloc (.cells #[.int .i64 a, .int .i64 b, .string t, .string f, .int .i64 wt, .slice A xs.length c, .int .i64 vl] 26) := ⟨_, rfl⟩
    rw [← hW]
    have z0 : W.cell? ⟨w.heap.size, 0, none⟩ = some (.int .i64 a) := by rw [hW]; simp [go_sem]
    have z1 : W.cell? ⟨w.heap.size, 1, none⟩ = some (.int .i64 b) := by rw [hW]; simp [go_sem]
    have z2 : W.cell? ⟨w.heap.size, 2, none⟩ = some (.string t) := by rw [hW]; simp [go_sem]
    have z3 : W.cell? ⟨w.heap.size, 3, none⟩ = some (.string f) := by rw [hW]; simp [go_sem]
    have z4 : W.cell? ⟨w.heap.size, 4, none⟩ = some (.int .i64 wt) := by rw [hW]; simp [go_sem]
    have z5 : W.cell? ⟨w.heap.size, 5, none⟩ = some (.slice A xs.length c) := by rw [hW]; simp [go_sem]
    have z6 : W.cell? ⟨w.heap.size, 6, none⟩ = some (.int .i64 vl) := by rw [hW]; simp [go_sem]
    have B0 : Below w.heap.size w W := by rw [hW]; go_grown
    clear hW
    refine (isLabelS a b t _ ht).mono ?_
    rintro e w1 ⟨rfl, b1⟩
    have B1 := chain B0 b1
    replace z0 := cell_keep b1 z0
    replace z1 := cell_keep b1 z1
    replace z2 := cell_keep b1 z2
    replace z3 := cell_keep b1 z3
    replace z4 := cell_keep b1 z4
    replace z5 := cell_keep b1 z5
    replace z6 := cell_keep b1 z6
    rw [q0]
    go_wp2_with (first | (go_at_call 38; refine (isPlaceS _ _ hf).mono ?_; rintro e w' ⟨rfl, rfl⟩) | (go_at_call 39; refine (l1In_any _ _ _ _).mono ?_; rintro e w' ⟨rfl, rfl⟩))
    go_ret
    exact ⟨ret_bool HV.out.symm, B1⟩
  cases q1 : plc f
  · have HV : Hid (parB a b t f wt xs vl = false) := Lib.hid (by unfold parB; rw [q1]; simp)
    go_enter Tryz.func14, Tryz.ntmps14
    go_wp2_with fail
    obtain ⟨W, hW⟩ : ∃ W, W = w.alloc (.cells #[.int .i64 a, .int .i64 b, .string t, .string f, .int .i64 wt, .slice A xs.length c, .int .i64 vl] 26) := ⟨_, rfl⟩
    rw [← hW]
    have z0 : W.cell? ⟨w.heap.size, 0, none⟩ = some (.int .i64 a) := by rw [hW]; simp [go_sem]
    have z1 : W.cell? ⟨w.heap.size, 1, none⟩ = some (.int .i64 b) := by rw [hW]; simp [go_sem]
    have z2 : W.cell? ⟨w.heap.size, 2, none⟩ = some (.string t) := by rw [hW]; simp [go_sem]
    have z3 : W.cell? ⟨w.heap.size, 3, none⟩ = some (.string f) := by rw [hW]; simp [go_sem]
    have z4 : W.cell? ⟨w.heap.size, 4, none⟩ = some (.int .i64 wt) := by rw [hW]; simp [go_sem]
    have z5 : W.cell? ⟨w.heap.size, 5, none⟩ = some (.slice A xs.length c) := by rw [hW]; simp [go_sem]
    have z6 : W.cell? ⟨w.heap.size, 6, none⟩ = some (.int .i64 vl) := by rw [hW]; simp [go_sem]
    have B0 : Below w.heap.size w W := by rw [hW]; go_grown
    clear hW
    refine (isLabelS a b t _ ht).mono ?_
    rintro e w1 ⟨rfl, b1⟩
    have B1 := chain B0 b1
    replace z0 := cell_keep b1 z0
    replace z1 := cell_keep b1 z1
    replace z2 := cell_keep b1 z2
    replace z3 := cell_keep b1 z3
    replace z4 := cell_keep b1 z4
    replace z5 := cell_keep b1 z5
    replace z6 := cell_keep b1 z6
    rw [q0]
    go_wp2_with (first | (go_at_call 38; refine (isPlaceS _ _ hf).mono ?_; rintro e w' ⟨rfl, rfl⟩) | (go_at_call 39; refine (l1In_any _ _ _ _).mono ?_; rintro e w' ⟨rfl, rfl⟩))
    go_ret
    exact ⟨ret_bool HV.out.symm, B1⟩
  cases q2 : (f.toList == t.toList)
  rotate_left
  · have HV : Hid (parB a b t f wt xs vl = false) := Lib.hid (by unfold parB; rw [q2]; simp)
    have ne : (f.toList != t.toList) = false := by rw [bne, q2]; rfl
    go_enter Tryz.func14, Tryz.ntmps14
    go_wp2_with fail
    obtain ⟨W, hW⟩ : ∃ W, W = w.alloc (.cells #[.int .i64 a, .int .i64 b, .string t, .string f, .int .i64 wt, .slice A xs.length c, .int .i64 vl] 26) := ⟨_, rfl⟩
    rw [← hW]
    have z0 : W.cell? ⟨w.heap.size, 0, none⟩ = some (.int .i64 a) := by rw [hW]; simp [go_sem]
    have z1 : W.cell? ⟨w.heap.size, 1, none⟩ = some (.int .i64 b) := by rw [hW]; simp [go_sem]
    have z2 : W.cell? ⟨w.heap.size, 2, none⟩ = some (.string t) := by rw [hW]; simp [go_sem]
    have z3 : W.cell? ⟨w.heap.size, 3, none⟩ = some (.string f) := by rw [hW]; simp [go_sem]
    have z4 : W.cell? ⟨w.heap.size, 4, none⟩ = some (.int .i64 wt) := by rw [hW]; simp [go_sem]
    have z5 : W.cell? ⟨w.heap.size, 5, none⟩ = some (.slice A xs.length c) := by rw [hW]; simp [go_sem]
    have z6 : W.cell? ⟨w.heap.size, 6, none⟩ = some (.int .i64 vl) := by rw [hW]; simp [go_sem]
    have B0 : Below w.heap.size w W := by rw [hW]; go_grown
    clear hW
    refine (isLabelS a b t _ ht).mono ?_
    rintro e w1 ⟨rfl, b1⟩
    have B1 := chain B0 b1
    replace z0 := cell_keep b1 z0
    replace z1 := cell_keep b1 z1
    replace z2 := cell_keep b1 z2
    replace z3 := cell_keep b1 z3
    replace z4 := cell_keep b1 z4
    replace z5 := cell_keep b1 z5
    replace z6 := cell_keep b1 z6
    rw [q0]
    go_wp2_with (first | (go_at_call 38; refine (isPlaceS _ _ hf).mono ?_; rintro e w' ⟨rfl, rfl⟩) | (go_at_call 39; refine (l1In_any _ _ _ _).mono ?_; rintro e w' ⟨rfl, rfl⟩))
    go_ret
    exact ⟨ret_bool HV.out.symm, B1⟩
  cases q3 : rng wt 1 30000
  · have HV : Hid (parB a b t f wt xs vl = false) := Lib.hid (by unfold parB; rw [q3]; simp)
    have ne : (f.toList != t.toList) = true := by rw [bne, q2]; rfl
    go_enter Tryz.func14, Tryz.ntmps14
    go_wp2_with fail
    obtain ⟨W, hW⟩ : ∃ W, W = w.alloc (.cells #[.int .i64 a, .int .i64 b, .string t, .string f, .int .i64 wt, .slice A xs.length c, .int .i64 vl] 26) := ⟨_, rfl⟩
    rw [← hW]
    have z0 : W.cell? ⟨w.heap.size, 0, none⟩ = some (.int .i64 a) := by rw [hW]; simp [go_sem]
    have z1 : W.cell? ⟨w.heap.size, 1, none⟩ = some (.int .i64 b) := by rw [hW]; simp [go_sem]
    have z2 : W.cell? ⟨w.heap.size, 2, none⟩ = some (.string t) := by rw [hW]; simp [go_sem]
    have z3 : W.cell? ⟨w.heap.size, 3, none⟩ = some (.string f) := by rw [hW]; simp [go_sem]
    have z4 : W.cell? ⟨w.heap.size, 4, none⟩ = some (.int .i64 wt) := by rw [hW]; simp [go_sem]
    have z5 : W.cell? ⟨w.heap.size, 5, none⟩ = some (.slice A xs.length c) := by rw [hW]; simp [go_sem]
    have z6 : W.cell? ⟨w.heap.size, 6, none⟩ = some (.int .i64 vl) := by rw [hW]; simp [go_sem]
    have B0 : Below w.heap.size w W := by rw [hW]; go_grown
    clear hW
    refine (isLabelS a b t _ ht).mono ?_
    rintro e w1 ⟨rfl, b1⟩
    have B1 := chain B0 b1
    replace z0 := cell_keep b1 z0
    replace z1 := cell_keep b1 z1
    replace z2 := cell_keep b1 z2
    replace z3 := cell_keep b1 z3
    replace z4 := cell_keep b1 z4
    replace z5 := cell_keep b1 z5
    replace z6 := cell_keep b1 z6
    rw [q0]
    go_wp2_with (first | (go_at_call 38; refine (isPlaceS _ _ hf).mono ?_; rintro e w' ⟨rfl, rfl⟩) | (go_at_call 39; refine (l1In_any _ _ _ _).mono ?_; rintro e w' ⟨rfl, rfl⟩))
    go_ret
    exact ⟨ret_bool HV.out.symm, B1⟩
  cases q4 : three xs
  · have HV : Hid (parB a b t f wt xs vl = false) := Lib.hid (by unfold parB; rw [q4]; simp)
    have ne : (f.toList != t.toList) = true := by rw [bne, q2]; rfl
    have T0 := fun (W : World) (hW : Below w.heap.size w W) => threeS xs _ W (sl.keep hW (Nat.le_refl _))
    rw [q4] at T0
    go_enter Tryz.func14, Tryz.ntmps14
    go_wp2_with fail
    obtain ⟨W, hW⟩ : ∃ W, W = w.alloc (.cells #[.int .i64 a, .int .i64 b, .string t, .string f, .int .i64 wt, .slice A xs.length c, .int .i64 vl] 26) := ⟨_, rfl⟩
    rw [← hW]
    have z0 : W.cell? ⟨w.heap.size, 0, none⟩ = some (.int .i64 a) := by rw [hW]; simp [go_sem]
    have z1 : W.cell? ⟨w.heap.size, 1, none⟩ = some (.int .i64 b) := by rw [hW]; simp [go_sem]
    have z2 : W.cell? ⟨w.heap.size, 2, none⟩ = some (.string t) := by rw [hW]; simp [go_sem]
    have z3 : W.cell? ⟨w.heap.size, 3, none⟩ = some (.string f) := by rw [hW]; simp [go_sem]
    have z4 : W.cell? ⟨w.heap.size, 4, none⟩ = some (.int .i64 wt) := by rw [hW]; simp [go_sem]
    have z5 : W.cell? ⟨w.heap.size, 5, none⟩ = some (.slice A xs.length c) := by rw [hW]; simp [go_sem]
    have z6 : W.cell? ⟨w.heap.size, 6, none⟩ = some (.int .i64 vl) := by rw [hW]; simp [go_sem]
    have B0 : Below w.heap.size w W := by rw [hW]; go_grown
    clear hW
    refine (isLabelS a b t _ ht).mono ?_
    rintro e w1 ⟨rfl, b1⟩
    have B1 := chain B0 b1
    replace z0 := cell_keep b1 z0
    replace z1 := cell_keep b1 z1
    replace z2 := cell_keep b1 z2
    replace z3 := cell_keep b1 z3
    replace z4 := cell_keep b1 z4
    replace z5 := cell_keep b1 z5
    replace z6 := cell_keep b1 z6
    rw [q0]
    go_wp2_with (first | (go_at_call 38; refine (isPlaceS _ _ hf).mono ?_; rintro e w' ⟨rfl, rfl⟩) | (go_at_call 39; refine (l1In_any _ _ _ _).mono ?_; rintro e w' ⟨rfl, rfl⟩) | (go_at_call 40; refine (T0 _ B1).mono ?_; rintro e w' ⟨rfl, rfl⟩))
    go_ret
    exact ⟨ret_bool HV.out.symm, B1⟩
  cases q5 : decide (girth xs ≤ 3600)
  · have HV : Hid (parB a b t f wt xs vl = false) := Lib.hid (by unfold parB; rw [q5]; simp)
    have ne : (f.toList != t.toList) = true := by rw [bne, q2]; rfl
    have G0 := fun (W : World) (hW : Below w.heap.size w W) => girthS xs _ W (sl.keep hW (Nat.le_refl _))
    obtain ⟨gv, hgv⟩ : ∃ gv, gv = girth xs := ⟨_, rfl⟩
    rw [← hgv] at q5
    simp only [← hgv] at G0
    clear hgv
    have T0 := fun (W : World) (hW : Below w.heap.size w W) => threeS xs _ W (sl.keep hW (Nat.le_refl _))
    rw [q4] at T0
    go_enter Tryz.func14, Tryz.ntmps14
    go_wp2_with fail
    obtain ⟨W, hW⟩ : ∃ W, W = w.alloc (.cells #[.int .i64 a, .int .i64 b, .string t, .string f, .int .i64 wt, .slice A xs.length c, .int .i64 vl] 26) := ⟨_, rfl⟩
    rw [← hW]
    have z0 : W.cell? ⟨w.heap.size, 0, none⟩ = some (.int .i64 a) := by rw [hW]; simp [go_sem]
    have z1 : W.cell? ⟨w.heap.size, 1, none⟩ = some (.int .i64 b) := by rw [hW]; simp [go_sem]
    have z2 : W.cell? ⟨w.heap.size, 2, none⟩ = some (.string t) := by rw [hW]; simp [go_sem]
    have z3 : W.cell? ⟨w.heap.size, 3, none⟩ = some (.string f) := by rw [hW]; simp [go_sem]
    have z4 : W.cell? ⟨w.heap.size, 4, none⟩ = some (.int .i64 wt) := by rw [hW]; simp [go_sem]
    have z5 : W.cell? ⟨w.heap.size, 5, none⟩ = some (.slice A xs.length c) := by rw [hW]; simp [go_sem]
    have z6 : W.cell? ⟨w.heap.size, 6, none⟩ = some (.int .i64 vl) := by rw [hW]; simp [go_sem]
    have B0 : Below w.heap.size w W := by rw [hW]; go_grown
    clear hW
    refine (isLabelS a b t _ ht).mono ?_
    rintro e w1 ⟨rfl, b1⟩
    have B1 := chain B0 b1
    replace z0 := cell_keep b1 z0
    replace z1 := cell_keep b1 z1
    replace z2 := cell_keep b1 z2
    replace z3 := cell_keep b1 z3
    replace z4 := cell_keep b1 z4
    replace z5 := cell_keep b1 z5
    replace z6 := cell_keep b1 z6
    rw [q0]
    go_wp2_with (first | (go_at_call 38; refine (isPlaceS _ _ hf).mono ?_; rintro e w' ⟨rfl, rfl⟩) | (go_at_call 39; refine (l1In_any _ _ _ _).mono ?_; rintro e w' ⟨rfl, rfl⟩) | (go_at_call 40; refine (T0 _ B1).mono ?_; rintro e w' ⟨rfl, rfl⟩))
    refine (G0 _ B1).mono ?_
    rintro e w2 ⟨rfl, b2⟩
    have B2 := chain B1 b2
    replace z6 := cell_keep b2 z6
    go_wp2_with (first | (go_at_call 38; refine (isPlaceS _ _ hf).mono ?_; rintro e w' ⟨rfl, rfl⟩) | (go_at_call 39; refine (l1In_any _ _ _ _).mono ?_; rintro e w' ⟨rfl, rfl⟩) | (go_at_call 40; refine (T0 _ B1).mono ?_; rintro e w' ⟨rfl, rfl⟩))
    go_ret
    exact ⟨ret_bool HV.out.symm, B2⟩
  have HV : Hid (parB a b t f wt xs vl = rng vl 0 500000) := Lib.hid (by unfold parB; rw [q0]; rw [q1]; rw [q2]; rw [q3]; rw [q4]; rw [q5]; simp)
  have ne : (f.toList != t.toList) = true := by rw [bne, q2]; rfl
  have G0 := fun (W : World) (hW : Below w.heap.size w W) => girthS xs _ W (sl.keep hW (Nat.le_refl _))
  obtain ⟨gv, hgv⟩ : ∃ gv, gv = girth xs := ⟨_, rfl⟩
  rw [← hgv] at q5
  simp only [← hgv] at G0
  clear hgv
  have T0 := fun (W : World) (hW : Below w.heap.size w W) => threeS xs _ W (sl.keep hW (Nat.le_refl _))
  rw [q4] at T0
  go_enter Tryz.func14, Tryz.ntmps14
  go_wp2_with fail
  obtain ⟨W, hW⟩ : ∃ W, W = w.alloc (.cells #[.int .i64 a, .int .i64 b, .string t, .string f, .int .i64 wt, .slice A xs.length c, .int .i64 vl] 26) := ⟨_, rfl⟩
  rw [← hW]
  have z0 : W.cell? ⟨w.heap.size, 0, none⟩ = some (.int .i64 a) := by rw [hW]; simp [go_sem]
  have z1 : W.cell? ⟨w.heap.size, 1, none⟩ = some (.int .i64 b) := by rw [hW]; simp [go_sem]
  have z2 : W.cell? ⟨w.heap.size, 2, none⟩ = some (.string t) := by rw [hW]; simp [go_sem]
  have z3 : W.cell? ⟨w.heap.size, 3, none⟩ = some (.string f) := by rw [hW]; simp [go_sem]
  have z4 : W.cell? ⟨w.heap.size, 4, none⟩ = some (.int .i64 wt) := by rw [hW]; simp [go_sem]
  have z5 : W.cell? ⟨w.heap.size, 5, none⟩ = some (.slice A xs.length c) := by rw [hW]; simp [go_sem]
  have z6 : W.cell? ⟨w.heap.size, 6, none⟩ = some (.int .i64 vl) := by rw [hW]; simp [go_sem]
  have B0 : Below w.heap.size w W := by rw [hW]; go_grown
  clear hW
  refine (isLabelS a b t _ ht).mono ?_
  rintro e w1 ⟨rfl, b1⟩
  have B1 := chain B0 b1
  replace z0 := cell_keep b1 z0
  replace z1 := cell_keep b1 z1
  replace z2 := cell_keep b1 z2
  replace z3 := cell_keep b1 z3
  replace z4 := cell_keep b1 z4
  replace z5 := cell_keep b1 z5
  replace z6 := cell_keep b1 z6
  rw [q0]
  go_wp2_with (first | (go_at_call 38; refine (isPlaceS _ _ hf).mono ?_; rintro e w' ⟨rfl, rfl⟩) | (go_at_call 39; refine (l1In_any _ _ _ _).mono ?_; rintro e w' ⟨rfl, rfl⟩) | (go_at_call 40; refine (T0 _ B1).mono ?_; rintro e w' ⟨rfl, rfl⟩))
  refine (G0 _ B1).mono ?_
  rintro e w2 ⟨rfl, b2⟩
  have B2 := chain B1 b2
  replace z6 := cell_keep b2 z6
  go_wp2_with (first | (go_at_call 38; refine (isPlaceS _ _ hf).mono ?_; rintro e w' ⟨rfl, rfl⟩) | (go_at_call 39; refine (l1In_any _ _ _ _).mono ?_; rintro e w' ⟨rfl, rfl⟩) | (go_at_call 40; refine (T0 _ B1).mono ?_; rintro e w' ⟨rfl, rfl⟩))
  go_ret
  exact ⟨ret_bool HV.out.symm, B2⟩
set_option maxHeartbeats 3200000 in
theorem chargeI (a b : Int) (t f : ByteArray) (wt : Int) (xs : List Int) (vl : Int) (V : Value) (w : World) (ht : t.size ≤ maxLen) (hf : f.size ≤ maxLen) (sl : SliceOf w 1 vI V xs) :
    Calls Tryz.prog 15 #[.agg #[.int .i64 a, .int .i64 b, .string t, .string f, .int .i64 wt, V, .int .i64 vl]] w fun e w' => e = .returned (.int .i64 (chargeW a b t f wt xs vl)) ∧ Below w.heap.size w w' := by
  obtain ⟨A, c, rfl, -, -⟩ := sl.form
  have CP := fun (W : World) (hW : Below w.heap.size w W) => isParcelI a b t f wt xs vl _ W ht hf (sl.keep hW (Nat.le_refl _))
  cases hp : parB a b t f wt xs vl
  · have HV : Hid (chargeW a b t f wt xs vl = 0) := Lib.hid (by unfold chargeW; rw [hp]; rfl)
    rw [hp] at CP
    clear hp
    go_enter Tryz.func15, Tryz.ntmps15
    go_wp2_with fail
    obtain ⟨W, hW⟩ : ∃ W, W = w.alloc (.cells #[.int .i64 a, .int .i64 b, .string t, .string f, .int .i64 wt, .slice A xs.length c, .int .i64 vl] 26) := ⟨_, rfl⟩
    rw [← hW]
    have z4 : W.cell? ⟨w.heap.size, 4, none⟩ = some (.int .i64 wt) := by rw [hW]; simp [go_sem]
    have z5 : W.cell? ⟨w.heap.size, 5, none⟩ = some (.slice A xs.length c) := by rw [hW]; simp [go_sem]
    have B0 : Below w.heap.size w W := by rw [hW]; go_grown
    clear hW
    refine (CP W B0).mono ?_
    rintro e w1 ⟨rfl, b1⟩
    have B1 := chain B0 b1
    replace z4 := cell_keep b1 z4
    replace z5 := cell_keep b1 z5
    go_wp2_with fail
    go_ret
    exact ⟨ret_int HV.out.symm, B1⟩
  obtain ⟨h3, hw1, hw2⟩ := parB_three hp
  obtain ⟨v1, v2⟩ := three_vol h3
  have CV := fun (W : World) (hW : Below w.heap.size w W) => volumeI xs _ W (sl.keep hW (Nat.le_refl _))
  have HC : Hid (chargeW a b t f wt xs vl = max wt ((vol xs + 4999) / 5000)) := Lib.hid (by unfold chargeW; rw [hp]; rfl)
  rw [hp] at CP
  clear hp h3
  obtain ⟨vv, hvv⟩ : ∃ vv, vv = vol xs := ⟨_, rfl⟩
  rw [← hvv] at v1 v2 HC
  simp only [← hvv] at CV
  clear hvv
  have d1 : 0 ≤ vv + 4999 := by omega
  have d2 : IntKind.i64.wrap (vv + 4999) = vv + 4999 := IntWalk.i64_in _ (by omega)
  have d3 : (vv + 4999).tdiv 5000 = (vv + 4999) / 5000 := Int.tdiv_eq_ediv_of_nonneg d1
  have d4 : IntKind.i64.wrap ((vv + 4999) / 5000) = (vv + 4999) / 5000 := IntWalk.i64_in _ (by omega)
  by_cases hle : (vv + 4999) / 5000 ≤ wt
  · have HV : Hid (chargeW a b t f wt xs vl = wt) := Lib.hid (by rw [HC.out]; omega)
    have hlt : ¬ wt < (vv + 4999) / 5000 := by omega
    go_enter Tryz.func15, Tryz.ntmps15
    go_wp2_with fail
    obtain ⟨W, hW⟩ : ∃ W, W = w.alloc (.cells #[.int .i64 a, .int .i64 b, .string t, .string f, .int .i64 wt, .slice A xs.length c, .int .i64 vl] 26) := ⟨_, rfl⟩
    rw [← hW]
    have z4 : W.cell? ⟨w.heap.size, 4, none⟩ = some (.int .i64 wt) := by rw [hW]; simp [go_sem]
    have z5 : W.cell? ⟨w.heap.size, 5, none⟩ = some (.slice A xs.length c) := by rw [hW]; simp [go_sem]
    have B0 : Below w.heap.size w W := by rw [hW]; go_grown
    clear hW
    refine (CP W B0).mono ?_
    rintro e w1 ⟨rfl, b1⟩
    have B1 := chain B0 b1
    replace z4 := cell_keep b1 z4
    replace z5 := cell_keep b1 z5
    go_wp2_with fail
    go_region_held3 (fun Q => Q.cell? ⟨w.heap.size, 4, none⟩ = some (.int .i64 wt) ∧ Q.cell? ⟨w.heap.size, 5, none⟩ = some (.slice A xs.length c) ∧ Below w.heap.size w Q) (((try go_split_ands); refine ⟨?_, ?_, ?_⟩ <;> first | assumption | (apply cell_keep <;> assumption) | (apply Below.drew; assumption) | (apply chain' <;> assumption))) ((first | (go_at_call 42; (try go_split_ands); refine (CV _ (by assumption)).mono ?_; rintro e w' ⟨rfl, hb⟩)))
    (try go_split_ands)
    go_wp2_with fail
    go_ret
    exact ⟨ret_int (by first | exact HV.out.symm | exact HC.out.symm), by assumption⟩
  · have HV : Hid (chargeW a b t f wt xs vl = (vv + 4999) / 5000) := Lib.hid (by rw [HC.out]; omega)
    have hlt : wt < (vv + 4999) / 5000 := by omega
    go_enter Tryz.func15, Tryz.ntmps15
    go_wp2_with fail
    obtain ⟨W, hW⟩ : ∃ W, W = w.alloc (.cells #[.int .i64 a, .int .i64 b, .string t, .string f, .int .i64 wt, .slice A xs.length c, .int .i64 vl] 26) := ⟨_, rfl⟩
    rw [← hW]
    have z4 : W.cell? ⟨w.heap.size, 4, none⟩ = some (.int .i64 wt) := by rw [hW]; simp [go_sem]
    have z5 : W.cell? ⟨w.heap.size, 5, none⟩ = some (.slice A xs.length c) := by rw [hW]; simp [go_sem]
    have B0 : Below w.heap.size w W := by rw [hW]; go_grown
    clear hW
    refine (CP W B0).mono ?_
    rintro e w1 ⟨rfl, b1⟩
    have B1 := chain B0 b1
    replace z4 := cell_keep b1 z4
    replace z5 := cell_keep b1 z5
    go_wp2_with fail
    go_region_held3 (fun Q => Q.cell? ⟨w.heap.size, 4, none⟩ = some (.int .i64 wt) ∧ Q.cell? ⟨w.heap.size, 5, none⟩ = some (.slice A xs.length c) ∧ Below w.heap.size w Q) (((try go_split_ands); refine ⟨?_, ?_, ?_⟩ <;> first | assumption | (apply cell_keep <;> assumption) | (apply Below.drew; assumption) | (apply chain' <;> assumption))) ((first | (go_at_call 42; (try go_split_ands); refine (CV _ (by assumption)).mono ?_; rintro e w' ⟨rfl, hb⟩)))
    (try go_split_ands)
    go_wp2_with fail
    go_ret
    exact ⟨ret_int (by first | exact HV.out.symm | exact HC.out.symm), by assumption⟩
end Go.Proofs.YteicnjemaemijaaGreatDoor
