/- The law FnHeavier walked: it returns true. No condition. -/
import Derived.Test.YteolobffmldfhaaPriceLaw
import Derived.Test.YteolobffmldfhaaDrawPrice
import Derived.Test.YteolobffmldfhaaWFits
namespace Go.Proofs.Yteolobffmldfhaa
open Go.RowKit Go.PlainAid
set_option maxRecDepth 100000
set_option linter.unusedVariables false
theorem belowH_set {B b o : Nat} {a w : World} {u : Value} (hb : B ≤ b) (h : Below B a w) : Below B a (w.setCell ⟨b, o, none⟩ u) := h.setCell hb _
set_option maxHeartbeats 12800000 in
theorem walk_Heavier (v0 : Value) (w : World) (p0 : VBytes w v0) : Calls Try.prog 10 #[v0] w fun e w' => e = .returned (.bool true) ∧ Below w.heap.size w w' := by
  obtain ⟨cs, hok0, h0⟩ := p0
  by_cases hb : 4096 < (cs.length : Int)
  · have hb' : decide (4096 < (cs.length : Int)) = true := decide_eq_true hb
    go_enter Try.func10, Try.ntmps10
    go_wp2_with (go_at_call 24; refine (big_anyF cs _ _ h0).mono ?_; rintro e w' ⟨rfl, rfl⟩)
    go_ret
    exact ⟨rfl, Below.refl _ _⟩
  have hb' : decide (4096 < (cs.length : Int)) = false := decide_eq_false hb
  obtain ⟨A0, k0, rfl, hle0, hm0⟩ := h0.form
  go_enter Try.func10, Try.ntmps10
  go_wp2_with (go_at_call 24; refine (big_anyF cs _ _ h0).mono ?_; rintro e w' ⟨rfl, rfl⟩)
  refine (drawPrice_any cs _ _ h0).mono ?_
  rintro e w1 ⟨vz, zs, vr, rs, a, b, t, f, wt, A, c, xs, vl, rfl, sz, kz, sr, kr, oa, ob, ot, of, ow, sx, ox, hl4, ov, b1, hz_, hr_, hA⟩
  obtain ⟨Az, cz, rfl, -, -⟩ := sz.form
  obtain ⟨Ar, cr, rfl, -, -⟩ := sr.form
  clear hz_ hr_ hA ox hl4
  go_wp2_with fail
  obtain ⟨W, hW⟩ : ∃ W, W = (w1.alloc (.cells #[.int .i64 a, .int .i64 b, .string t, .string f, .int .i64 wt, .slice A xs.length c, .int .i64 vl] 41)).alloc (.cells #[.int .i64 a, .int .i64 b, .string t, .string f, .int .i64 wt, .slice A xs.length c, .int .i64 vl] 41) := ⟨_, rfl⟩
  rw [← hW]
  have z0 : W.cell? ⟨w1.heap.size, 0, none⟩ = some (.int .i64 a) := by rw [hW]; simp [go_sem]
  have z1 : W.cell? ⟨w1.heap.size, 1, none⟩ = some (.int .i64 b) := by rw [hW]; simp [go_sem]
  have z2 : W.cell? ⟨w1.heap.size, 2, none⟩ = some (.string t) := by rw [hW]; simp [go_sem]
  have z3 : W.cell? ⟨w1.heap.size, 3, none⟩ = some (.string f) := by rw [hW]; simp [go_sem]
  have z4 : W.cell? ⟨w1.heap.size, 4, none⟩ = some (.int .i64 wt) := by rw [hW]; simp [go_sem]
  have z5 : W.cell? ⟨w1.heap.size, 5, none⟩ = some (.slice A xs.length c) := by rw [hW]; simp [go_sem]
  have z6 : W.cell? ⟨w1.heap.size, 6, none⟩ = some (.int .i64 vl) := by rw [hW]; simp [go_sem]
  have y0 : W.cell? ⟨w1.heap.size + 1, 0, none⟩ = some (.int .i64 a) := by rw [hW]; simp [go_sem]
  have y1 : W.cell? ⟨w1.heap.size + 1, 1, none⟩ = some (.int .i64 b) := by rw [hW]; simp [go_sem]
  have y2 : W.cell? ⟨w1.heap.size + 1, 2, none⟩ = some (.string t) := by rw [hW]; simp [go_sem]
  have y3 : W.cell? ⟨w1.heap.size + 1, 3, none⟩ = some (.string f) := by rw [hW]; simp [go_sem]
  have y4 : W.cell? ⟨w1.heap.size + 1, 4, none⟩ = some (.int .i64 wt) := by rw [hW]; simp [go_sem]
  have y5 : W.cell? ⟨w1.heap.size + 1, 5, none⟩ = some (.slice A xs.length c) := by rw [hW]; simp [go_sem]
  have y6 : W.cell? ⟨w1.heap.size + 1, 6, none⟩ = some (.int .i64 vl) := by rw [hW]; simp [go_sem]
  have fy : W.frozen? ⟨w1.heap.size + 1, 4, none⟩ = false := by rw [hW]; simp [go_sem]
  have bW : Below w1.heap.size w1 W := by rw [hW]; exact (go_alloc_belowH _ _).alloc (by simp) _
  clear hW
  have BW := chain b1 bW
  have BX : ∀ u, Below w1.heap.size w1 (W.drew.setCell ⟨w1.heap.size + 1, 4, none⟩ u) := fun u => bW.drew.setCell (by simp only; omega) _
  go_region_with (go_at_call 26; refine (atF cs _ 1 _ hok0 (h0.keep BW.drew (Nat.le_refl _))).mono ?_; rintro e w' ⟨d, rfl, d0, d1, rfl⟩)
  all_goals
    go_wp2_with fail
    obtain ⟨wt', hw⟩ : ∃ z, z = wrap64 (wt + d) := ⟨_, rfl⟩
    rw [← hw]
    have hle : parB a b t f wt xs vl = true → wt ≤ wt' := fun hh => by rw [hw]; obtain ⟨-, q1, q2⟩ := parB_three hh; unfold wrap64; omega
    clear hw
    obtain ⟨X, hX⟩ : ∃ X, X = (W.setCell ⟨w1.heap.size + 1, 4, none⟩ (.int .i64 wt')).drew := ⟨_, rfl⟩
    rw [← hX]
    replace z0 : X.cell? ⟨w1.heap.size, 0, none⟩ = some (.int .i64 a) := by rw [hX]; simp [go_sem, z0]
    replace z1 : X.cell? ⟨w1.heap.size, 1, none⟩ = some (.int .i64 b) := by rw [hX]; simp [go_sem, z1]
    replace z2 : X.cell? ⟨w1.heap.size, 2, none⟩ = some (.string t) := by rw [hX]; simp [go_sem, z2]
    replace z3 : X.cell? ⟨w1.heap.size, 3, none⟩ = some (.string f) := by rw [hX]; simp [go_sem, z3]
    replace z4 : X.cell? ⟨w1.heap.size, 4, none⟩ = some (.int .i64 wt) := by rw [hX]; simp [go_sem, z4]
    replace z5 : X.cell? ⟨w1.heap.size, 5, none⟩ = some (.slice A xs.length c) := by rw [hX]; simp [go_sem, z5]
    replace z6 : X.cell? ⟨w1.heap.size, 6, none⟩ = some (.int .i64 vl) := by rw [hX]; simp [go_sem, z6]
    replace y0 : X.cell? ⟨w1.heap.size + 1, 0, none⟩ = some (.int .i64 a) := by rw [hX]; simp [go_sem, y0]
    replace y1 : X.cell? ⟨w1.heap.size + 1, 1, none⟩ = some (.int .i64 b) := by rw [hX]; simp [go_sem, y1]
    replace y2 : X.cell? ⟨w1.heap.size + 1, 2, none⟩ = some (.string t) := by rw [hX]; simp [go_sem, y2]
    replace y3 : X.cell? ⟨w1.heap.size + 1, 3, none⟩ = some (.string f) := by rw [hX]; simp [go_sem, y3]
    replace y4 : X.cell? ⟨w1.heap.size + 1, 4, none⟩ = some (.int .i64 wt') := by rw [hX]; exact World.cell?_setCell_same _ _ _ y4
    replace y5 : X.cell? ⟨w1.heap.size + 1, 5, none⟩ = some (.slice A xs.length c) := by rw [hX]; simp [go_sem, y5]
    replace y6 : X.cell? ⟨w1.heap.size + 1, 6, none⟩ = some (.int .i64 vl) := by rw [hX]; simp [go_sem, y6]
    have bX : Below w1.heap.size w1 X := by rw [hX]; exact (bW.setCell (by simp only; omega) _).drew
    clear hX fy BX BW
    have BV := chain b1 bX
    have sZ := sz.keep bX (Nat.le_refl _)
    have sR := sr.keep bX (Nat.le_refl _)
    have sX := sx.keep bX (Nat.le_refl _)
    obtain ⟨P, hP⟩ : ∃ P, P = priceOpt zs rs a b t f wt xs vl := ⟨_, rfl⟩
    obtain ⟨Q, hQ⟩ : ∃ Q, Q = priceOpt zs rs a b t f wt' xs vl := ⟨_, rfl⟩
    have law : parB a b t f wt xs vl = true → parB a b t f wt' xs vl = true → ∀ y, Q = some y → ∃ x, P = some x ∧ x ≤ y := fun h1 h2 y hy => by rw [hP]; exact heavier_law h1 h2 (hle h1) (by rw [← hQ]; exact hy)
    have HP := Lib.hid hP; have HQ := Lib.hid hQ; clear hP hQ hle
    have LAW := Lib.hid law; clear law
    have hpp : (P.isSome != P.isSome) = false := by simp
    cases eP : parB a b t f wt xs vl
    · have PF := Lib.hid eP; clear eP
      go_wp2_with fail
      have CP10 := priceI zs rs a b t f wt xs vl _ _ _ _ kz kr oa ot of sZ sR sX
      rw [← HP.out] at CP10
      refine CP10.mono ?_
      rintro e w10 ⟨rfl, b10⟩
      clear CP10
      have B10 := chain BV b10
      replace z0 := cell_keep b10 z0
      replace z1 := cell_keep b10 z1
      replace z2 := cell_keep b10 z2
      replace z3 := cell_keep b10 z3
      replace z4 := cell_keep b10 z4
      replace z5 := cell_keep b10 z5
      replace z6 := cell_keep b10 z6
      replace y0 := cell_keep b10 y0
      replace y1 := cell_keep b10 y1
      replace y2 := cell_keep b10 y2
      replace y3 := cell_keep b10 y3
      replace y4 := cell_keep b10 y4
      replace y5 := cell_keep b10 y5
      replace y6 := cell_keep b10 y6
      replace sZ := sZ.keep b10 (Nat.le_refl _)
      replace sR := sR.keep b10 (Nat.le_refl _)
      replace sX := sX.keep b10 (Nat.le_refl _)
      go_wp2_with fail
      have CP11 := priceS zs rs a b t f wt xs vl _ _ _ _ kz kr oa ot of sZ sR sX
      rw [← HP.out] at CP11
      refine CP11.mono ?_
      rintro e w11 ⟨rfl, b11⟩
      clear CP11
      have B11 := chain B10 b11
      replace z0 := cell_keep b11 z0
      replace z1 := cell_keep b11 z1
      replace z2 := cell_keep b11 z2
      replace z3 := cell_keep b11 z3
      replace z4 := cell_keep b11 z4
      replace z5 := cell_keep b11 z5
      replace z6 := cell_keep b11 z6
      replace y0 := cell_keep b11 y0
      replace y1 := cell_keep b11 y1
      replace y2 := cell_keep b11 y2
      replace y3 := cell_keep b11 y3
      replace y4 := cell_keep b11 y4
      replace y5 := cell_keep b11 y5
      replace y6 := cell_keep b11 y6
      replace sZ := sZ.keep b11 (Nat.le_refl _)
      replace sR := sR.keep b11 (Nat.le_refl _)
      replace sX := sX.keep b11 (Nat.le_refl _)
      go_wp2_with fail
      have CP12 := priceI zs rs a b t f wt' xs vl _ _ _ _ kz kr oa ot of sZ sR sX
      rw [← HQ.out] at CP12
      refine CP12.mono ?_
      rintro e w12 ⟨rfl, b12⟩
      clear CP12
      have B12 := chain B11 b12
      replace z0 := cell_keep b12 z0
      replace z1 := cell_keep b12 z1
      replace z2 := cell_keep b12 z2
      replace z3 := cell_keep b12 z3
      replace z4 := cell_keep b12 z4
      replace z5 := cell_keep b12 z5
      replace z6 := cell_keep b12 z6
      replace y0 := cell_keep b12 y0
      replace y1 := cell_keep b12 y1
      replace y2 := cell_keep b12 y2
      replace y3 := cell_keep b12 y3
      replace y4 := cell_keep b12 y4
      replace y5 := cell_keep b12 y5
      replace y6 := cell_keep b12 y6
      replace sZ := sZ.keep b12 (Nat.le_refl _)
      replace sR := sR.keep b12 (Nat.le_refl _)
      replace sX := sX.keep b12 (Nat.le_refl _)
      go_wp2_with fail
      refine (isParcelI a b t f wt xs vl _ _ ot of sX).mono ?_
      rintro e w13 ⟨rfl, b13⟩
      have B13 := chain B12 b13
      replace z0 := cell_keep b13 z0
      replace z1 := cell_keep b13 z1
      replace z2 := cell_keep b13 z2
      replace z3 := cell_keep b13 z3
      replace z4 := cell_keep b13 z4
      replace z5 := cell_keep b13 z5
      replace z6 := cell_keep b13 z6
      replace y0 := cell_keep b13 y0
      replace y1 := cell_keep b13 y1
      replace y2 := cell_keep b13 y2
      replace y3 := cell_keep b13 y3
      replace y4 := cell_keep b13 y4
      replace y5 := cell_keep b13 y5
      replace y6 := cell_keep b13 y6
      replace sZ := sZ.keep b13 (Nat.le_refl _)
      replace sR := sR.keep b13 (Nat.le_refl _)
      replace sX := sX.keep b13 (Nat.le_refl _)
      rw [PF.out]
      go_wp2_with fail
      go_ret
      exact ⟨rfl, B13⟩
    cases eQ : parB a b t f wt' xs vl
    · have PT := Lib.hid eP; have QF := Lib.hid eQ; clear eP eQ
      go_wp2_with fail
      have CP10 := priceI zs rs a b t f wt xs vl _ _ _ _ kz kr oa ot of sZ sR sX
      rw [← HP.out] at CP10
      refine CP10.mono ?_
      rintro e w10 ⟨rfl, b10⟩
      clear CP10
      have B10 := chain BV b10
      replace z0 := cell_keep b10 z0
      replace z1 := cell_keep b10 z1
      replace z2 := cell_keep b10 z2
      replace z3 := cell_keep b10 z3
      replace z4 := cell_keep b10 z4
      replace z5 := cell_keep b10 z5
      replace z6 := cell_keep b10 z6
      replace y0 := cell_keep b10 y0
      replace y1 := cell_keep b10 y1
      replace y2 := cell_keep b10 y2
      replace y3 := cell_keep b10 y3
      replace y4 := cell_keep b10 y4
      replace y5 := cell_keep b10 y5
      replace y6 := cell_keep b10 y6
      replace sZ := sZ.keep b10 (Nat.le_refl _)
      replace sR := sR.keep b10 (Nat.le_refl _)
      replace sX := sX.keep b10 (Nat.le_refl _)
      go_wp2_with fail
      have CP11 := priceS zs rs a b t f wt xs vl _ _ _ _ kz kr oa ot of sZ sR sX
      rw [← HP.out] at CP11
      refine CP11.mono ?_
      rintro e w11 ⟨rfl, b11⟩
      clear CP11
      have B11 := chain B10 b11
      replace z0 := cell_keep b11 z0
      replace z1 := cell_keep b11 z1
      replace z2 := cell_keep b11 z2
      replace z3 := cell_keep b11 z3
      replace z4 := cell_keep b11 z4
      replace z5 := cell_keep b11 z5
      replace z6 := cell_keep b11 z6
      replace y0 := cell_keep b11 y0
      replace y1 := cell_keep b11 y1
      replace y2 := cell_keep b11 y2
      replace y3 := cell_keep b11 y3
      replace y4 := cell_keep b11 y4
      replace y5 := cell_keep b11 y5
      replace y6 := cell_keep b11 y6
      replace sZ := sZ.keep b11 (Nat.le_refl _)
      replace sR := sR.keep b11 (Nat.le_refl _)
      replace sX := sX.keep b11 (Nat.le_refl _)
      go_wp2_with fail
      have CP12 := priceI zs rs a b t f wt' xs vl _ _ _ _ kz kr oa ot of sZ sR sX
      rw [← HQ.out] at CP12
      refine CP12.mono ?_
      rintro e w12 ⟨rfl, b12⟩
      clear CP12
      have B12 := chain B11 b12
      replace z0 := cell_keep b12 z0
      replace z1 := cell_keep b12 z1
      replace z2 := cell_keep b12 z2
      replace z3 := cell_keep b12 z3
      replace z4 := cell_keep b12 z4
      replace z5 := cell_keep b12 z5
      replace z6 := cell_keep b12 z6
      replace y0 := cell_keep b12 y0
      replace y1 := cell_keep b12 y1
      replace y2 := cell_keep b12 y2
      replace y3 := cell_keep b12 y3
      replace y4 := cell_keep b12 y4
      replace y5 := cell_keep b12 y5
      replace y6 := cell_keep b12 y6
      replace sZ := sZ.keep b12 (Nat.le_refl _)
      replace sR := sR.keep b12 (Nat.le_refl _)
      replace sX := sX.keep b12 (Nat.le_refl _)
      go_wp2_with fail
      refine (isParcelI a b t f wt xs vl _ _ ot of sX).mono ?_
      rintro e w13 ⟨rfl, b13⟩
      have B13 := chain B12 b13
      replace z0 := cell_keep b13 z0
      replace z1 := cell_keep b13 z1
      replace z2 := cell_keep b13 z2
      replace z3 := cell_keep b13 z3
      replace z4 := cell_keep b13 z4
      replace z5 := cell_keep b13 z5
      replace z6 := cell_keep b13 z6
      replace y0 := cell_keep b13 y0
      replace y1 := cell_keep b13 y1
      replace y2 := cell_keep b13 y2
      replace y3 := cell_keep b13 y3
      replace y4 := cell_keep b13 y4
      replace y5 := cell_keep b13 y5
      replace y6 := cell_keep b13 y6
      replace sZ := sZ.keep b13 (Nat.le_refl _)
      replace sR := sR.keep b13 (Nat.le_refl _)
      replace sX := sX.keep b13 (Nat.le_refl _)
      rw [PT.out]
      go_wp2_with fail
      refine (isParcelI a b t f wt' xs vl _ _ ot of sX).mono ?_
      rintro e w14 ⟨rfl, b14⟩
      have B14 := chain B13 b14
      replace z0 := cell_keep b14 z0
      replace z1 := cell_keep b14 z1
      replace z2 := cell_keep b14 z2
      replace z3 := cell_keep b14 z3
      replace z4 := cell_keep b14 z4
      replace z5 := cell_keep b14 z5
      replace z6 := cell_keep b14 z6
      replace y0 := cell_keep b14 y0
      replace y1 := cell_keep b14 y1
      replace y2 := cell_keep b14 y2
      replace y3 := cell_keep b14 y3
      replace y4 := cell_keep b14 y4
      replace y5 := cell_keep b14 y5
      replace y6 := cell_keep b14 y6
      replace sZ := sZ.keep b14 (Nat.le_refl _)
      replace sR := sR.keep b14 (Nat.le_refl _)
      replace sX := sX.keep b14 (Nat.le_refl _)
      rw [QF.out]
      go_wp2_with fail
      go_ret
      exact ⟨rfl, B14⟩
    have PT := Lib.hid eP; have QT := Lib.hid eQ; clear eP eQ
    cases Q with
    | none =>
      go_wp2_with fail
      have CP10 := priceI zs rs a b t f wt xs vl _ _ _ _ kz kr oa ot of sZ sR sX
      rw [← HP.out] at CP10
      refine CP10.mono ?_
      rintro e w10 ⟨rfl, b10⟩
      clear CP10
      have B10 := chain BV b10
      replace z0 := cell_keep b10 z0
      replace z1 := cell_keep b10 z1
      replace z2 := cell_keep b10 z2
      replace z3 := cell_keep b10 z3
      replace z4 := cell_keep b10 z4
      replace z5 := cell_keep b10 z5
      replace z6 := cell_keep b10 z6
      replace y0 := cell_keep b10 y0
      replace y1 := cell_keep b10 y1
      replace y2 := cell_keep b10 y2
      replace y3 := cell_keep b10 y3
      replace y4 := cell_keep b10 y4
      replace y5 := cell_keep b10 y5
      replace y6 := cell_keep b10 y6
      replace sZ := sZ.keep b10 (Nat.le_refl _)
      replace sR := sR.keep b10 (Nat.le_refl _)
      replace sX := sX.keep b10 (Nat.le_refl _)
      go_wp2_with fail
      have CP11 := priceS zs rs a b t f wt xs vl _ _ _ _ kz kr oa ot of sZ sR sX
      rw [← HP.out] at CP11
      refine CP11.mono ?_
      rintro e w11 ⟨rfl, b11⟩
      clear CP11
      have B11 := chain B10 b11
      replace z0 := cell_keep b11 z0
      replace z1 := cell_keep b11 z1
      replace z2 := cell_keep b11 z2
      replace z3 := cell_keep b11 z3
      replace z4 := cell_keep b11 z4
      replace z5 := cell_keep b11 z5
      replace z6 := cell_keep b11 z6
      replace y0 := cell_keep b11 y0
      replace y1 := cell_keep b11 y1
      replace y2 := cell_keep b11 y2
      replace y3 := cell_keep b11 y3
      replace y4 := cell_keep b11 y4
      replace y5 := cell_keep b11 y5
      replace y6 := cell_keep b11 y6
      replace sZ := sZ.keep b11 (Nat.le_refl _)
      replace sR := sR.keep b11 (Nat.le_refl _)
      replace sX := sX.keep b11 (Nat.le_refl _)
      go_wp2_with fail
      have CP12 := priceI zs rs a b t f wt' xs vl _ _ _ _ kz kr oa ot of sZ sR sX
      rw [← HQ.out] at CP12
      refine CP12.mono ?_
      rintro e w12 ⟨rfl, b12⟩
      clear CP12
      have B12 := chain B11 b12
      replace z0 := cell_keep b12 z0
      replace z1 := cell_keep b12 z1
      replace z2 := cell_keep b12 z2
      replace z3 := cell_keep b12 z3
      replace z4 := cell_keep b12 z4
      replace z5 := cell_keep b12 z5
      replace z6 := cell_keep b12 z6
      replace y0 := cell_keep b12 y0
      replace y1 := cell_keep b12 y1
      replace y2 := cell_keep b12 y2
      replace y3 := cell_keep b12 y3
      replace y4 := cell_keep b12 y4
      replace y5 := cell_keep b12 y5
      replace y6 := cell_keep b12 y6
      replace sZ := sZ.keep b12 (Nat.le_refl _)
      replace sR := sR.keep b12 (Nat.le_refl _)
      replace sX := sX.keep b12 (Nat.le_refl _)
      go_wp2_with fail
      refine (isParcelI a b t f wt xs vl _ _ ot of sX).mono ?_
      rintro e w13 ⟨rfl, b13⟩
      have B13 := chain B12 b13
      replace z0 := cell_keep b13 z0
      replace z1 := cell_keep b13 z1
      replace z2 := cell_keep b13 z2
      replace z3 := cell_keep b13 z3
      replace z4 := cell_keep b13 z4
      replace z5 := cell_keep b13 z5
      replace z6 := cell_keep b13 z6
      replace y0 := cell_keep b13 y0
      replace y1 := cell_keep b13 y1
      replace y2 := cell_keep b13 y2
      replace y3 := cell_keep b13 y3
      replace y4 := cell_keep b13 y4
      replace y5 := cell_keep b13 y5
      replace y6 := cell_keep b13 y6
      replace sZ := sZ.keep b13 (Nat.le_refl _)
      replace sR := sR.keep b13 (Nat.le_refl _)
      replace sX := sX.keep b13 (Nat.le_refl _)
      rw [PT.out]
      go_wp2_with fail
      refine (isParcelI a b t f wt' xs vl _ _ ot of sX).mono ?_
      rintro e w14 ⟨rfl, b14⟩
      have B14 := chain B13 b14
      replace z0 := cell_keep b14 z0
      replace z1 := cell_keep b14 z1
      replace z2 := cell_keep b14 z2
      replace z3 := cell_keep b14 z3
      replace z4 := cell_keep b14 z4
      replace z5 := cell_keep b14 z5
      replace z6 := cell_keep b14 z6
      replace y0 := cell_keep b14 y0
      replace y1 := cell_keep b14 y1
      replace y2 := cell_keep b14 y2
      replace y3 := cell_keep b14 y3
      replace y4 := cell_keep b14 y4
      replace y5 := cell_keep b14 y5
      replace y6 := cell_keep b14 y6
      replace sZ := sZ.keep b14 (Nat.le_refl _)
      replace sR := sR.keep b14 (Nat.le_refl _)
      replace sX := sX.keep b14 (Nat.le_refl _)
      rw [QT.out]
      go_wp2_with fail
      go_ret
      exact ⟨rfl, B14⟩
    | some y =>
      obtain ⟨x, rfl, hxy⟩ := LAW.out PT.out QT.out y rfl
      have hd : decide (pV (some x) ≤ pV (some y)) = true := decide_eq_true hxy
      go_wp2_with fail
      have CP10 := priceI zs rs a b t f wt xs vl _ _ _ _ kz kr oa ot of sZ sR sX
      rw [← HP.out] at CP10
      refine CP10.mono ?_
      rintro e w10 ⟨rfl, b10⟩
      clear CP10
      have B10 := chain BV b10
      replace z0 := cell_keep b10 z0
      replace z1 := cell_keep b10 z1
      replace z2 := cell_keep b10 z2
      replace z3 := cell_keep b10 z3
      replace z4 := cell_keep b10 z4
      replace z5 := cell_keep b10 z5
      replace z6 := cell_keep b10 z6
      replace y0 := cell_keep b10 y0
      replace y1 := cell_keep b10 y1
      replace y2 := cell_keep b10 y2
      replace y3 := cell_keep b10 y3
      replace y4 := cell_keep b10 y4
      replace y5 := cell_keep b10 y5
      replace y6 := cell_keep b10 y6
      replace sZ := sZ.keep b10 (Nat.le_refl _)
      replace sR := sR.keep b10 (Nat.le_refl _)
      replace sX := sX.keep b10 (Nat.le_refl _)
      go_wp2_with fail
      have CP11 := priceS zs rs a b t f wt xs vl _ _ _ _ kz kr oa ot of sZ sR sX
      rw [← HP.out] at CP11
      refine CP11.mono ?_
      rintro e w11 ⟨rfl, b11⟩
      clear CP11
      have B11 := chain B10 b11
      replace z0 := cell_keep b11 z0
      replace z1 := cell_keep b11 z1
      replace z2 := cell_keep b11 z2
      replace z3 := cell_keep b11 z3
      replace z4 := cell_keep b11 z4
      replace z5 := cell_keep b11 z5
      replace z6 := cell_keep b11 z6
      replace y0 := cell_keep b11 y0
      replace y1 := cell_keep b11 y1
      replace y2 := cell_keep b11 y2
      replace y3 := cell_keep b11 y3
      replace y4 := cell_keep b11 y4
      replace y5 := cell_keep b11 y5
      replace y6 := cell_keep b11 y6
      replace sZ := sZ.keep b11 (Nat.le_refl _)
      replace sR := sR.keep b11 (Nat.le_refl _)
      replace sX := sX.keep b11 (Nat.le_refl _)
      go_wp2_with fail
      have CP12 := priceI zs rs a b t f wt' xs vl _ _ _ _ kz kr oa ot of sZ sR sX
      rw [← HQ.out] at CP12
      refine CP12.mono ?_
      rintro e w12 ⟨rfl, b12⟩
      clear CP12
      have B12 := chain B11 b12
      replace z0 := cell_keep b12 z0
      replace z1 := cell_keep b12 z1
      replace z2 := cell_keep b12 z2
      replace z3 := cell_keep b12 z3
      replace z4 := cell_keep b12 z4
      replace z5 := cell_keep b12 z5
      replace z6 := cell_keep b12 z6
      replace y0 := cell_keep b12 y0
      replace y1 := cell_keep b12 y1
      replace y2 := cell_keep b12 y2
      replace y3 := cell_keep b12 y3
      replace y4 := cell_keep b12 y4
      replace y5 := cell_keep b12 y5
      replace y6 := cell_keep b12 y6
      replace sZ := sZ.keep b12 (Nat.le_refl _)
      replace sR := sR.keep b12 (Nat.le_refl _)
      replace sX := sX.keep b12 (Nat.le_refl _)
      go_wp2_with fail
      refine (isParcelI a b t f wt xs vl _ _ ot of sX).mono ?_
      rintro e w13 ⟨rfl, b13⟩
      have B13 := chain B12 b13
      replace z0 := cell_keep b13 z0
      replace z1 := cell_keep b13 z1
      replace z2 := cell_keep b13 z2
      replace z3 := cell_keep b13 z3
      replace z4 := cell_keep b13 z4
      replace z5 := cell_keep b13 z5
      replace z6 := cell_keep b13 z6
      replace y0 := cell_keep b13 y0
      replace y1 := cell_keep b13 y1
      replace y2 := cell_keep b13 y2
      replace y3 := cell_keep b13 y3
      replace y4 := cell_keep b13 y4
      replace y5 := cell_keep b13 y5
      replace y6 := cell_keep b13 y6
      replace sZ := sZ.keep b13 (Nat.le_refl _)
      replace sR := sR.keep b13 (Nat.le_refl _)
      replace sX := sX.keep b13 (Nat.le_refl _)
      rw [PT.out]
      go_wp2_with fail
      refine (isParcelI a b t f wt' xs vl _ _ ot of sX).mono ?_
      rintro e w14 ⟨rfl, b14⟩
      have B14 := chain B13 b14
      replace z0 := cell_keep b14 z0
      replace z1 := cell_keep b14 z1
      replace z2 := cell_keep b14 z2
      replace z3 := cell_keep b14 z3
      replace z4 := cell_keep b14 z4
      replace z5 := cell_keep b14 z5
      replace z6 := cell_keep b14 z6
      replace y0 := cell_keep b14 y0
      replace y1 := cell_keep b14 y1
      replace y2 := cell_keep b14 y2
      replace y3 := cell_keep b14 y3
      replace y4 := cell_keep b14 y4
      replace y5 := cell_keep b14 y5
      replace y6 := cell_keep b14 y6
      replace sZ := sZ.keep b14 (Nat.le_refl _)
      replace sR := sR.keep b14 (Nat.le_refl _)
      replace sX := sX.keep b14 (Nat.le_refl _)
      rw [QT.out]
      go_wp2_with fail
      go_ret
      exact ⟨rfl, B14⟩
end Go.Proofs.Yteolobffmldfhaa
