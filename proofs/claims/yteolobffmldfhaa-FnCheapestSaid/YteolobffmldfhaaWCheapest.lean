/- The law FnCheapest walked: it returns true. No condition. -/
import Derived.Test.YteolobffmldfhaaPriceLaw
import Derived.Test.YteolobffmldfhaaDrawCheap
import Derived.Test.YteolobffmldfhaaWFits
namespace Go.Proofs.Yteolobffmldfhaa
open Go.RowKit Go.PlainAid
set_option maxRecDepth 100000
set_option linter.unusedVariables false
set_option maxHeartbeats 12800000 in
theorem walk_Cheapest (v0 : Value) (w : World) (p0 : VBytes w v0) : Calls Try.prog 11 #[v0] w fun e w' => e = .returned (.bool true) ∧ Below w.heap.size w w' := by
  obtain ⟨cs, hok0, h0⟩ := p0
  by_cases hb : 4096 < (cs.length : Int)
  · have hb' : decide (4096 < (cs.length : Int)) = true := decide_eq_true hb
    go_enter Try.func11, Try.ntmps11
    go_wp2_with (go_at_call 24; refine (big_anyF cs _ _ h0).mono ?_; rintro e w' ⟨rfl, rfl⟩)
    go_ret
    exact ⟨rfl, Below.refl _ _⟩
  have hb' : decide (4096 < (cs.length : Int)) = false := decide_eq_false hb
  obtain ⟨A0, k0, rfl, hle0, hm0⟩ := h0.form
  go_enter Try.func11, Try.ntmps11
  go_wp2_with (go_at_call 24; refine (big_anyF cs _ _ h0).mono ?_; rintro e w' ⟨rfl, rfl⟩)
  refine (drawCheap_any cs _ _ h0).mono ?_
  rintro e w1 ⟨vz, zs, vr, rs, a, b, t, f, wt, A, c, xs, vl, rfl, sz, kz, sr, kr, oa, ob, ot, of, ow, sx, ox, hl4, ov, b1, hz_, hr_, hA⟩
  obtain ⟨Az, cz, rfl, -, -⟩ := sz.form
  obtain ⟨Ar, cr, rfl, -, -⟩ := sr.form
  clear hz_ hr_ hA ox hl4
  go_wp2_with fail
  obtain ⟨W, hW⟩ : ∃ W, W = w1.alloc (.cells #[.int .i64 a, .int .i64 b, .string t, .string f, .int .i64 wt, .slice A xs.length c, .int .i64 vl] 41) := ⟨_, rfl⟩
  rw [← hW]
  have z0 : W.cell? ⟨w1.heap.size, 0, none⟩ = some (.int .i64 a) := by rw [hW]; simp [go_sem]
  have z1 : W.cell? ⟨w1.heap.size, 1, none⟩ = some (.int .i64 b) := by rw [hW]; simp [go_sem]
  have z2 : W.cell? ⟨w1.heap.size, 2, none⟩ = some (.string t) := by rw [hW]; simp [go_sem]
  have z3 : W.cell? ⟨w1.heap.size, 3, none⟩ = some (.string f) := by rw [hW]; simp [go_sem]
  have z4 : W.cell? ⟨w1.heap.size, 4, none⟩ = some (.int .i64 wt) := by rw [hW]; simp [go_sem]
  have z5 : W.cell? ⟨w1.heap.size, 5, none⟩ = some (.slice A xs.length c) := by rw [hW]; simp [go_sem]
  have z6 : W.cell? ⟨w1.heap.size, 6, none⟩ = some (.int .i64 vl) := by rw [hW]; simp [go_sem]
  have bW : Below w1.heap.size w1 W := by rw [hW]; exact go_alloc_belowH _ _
  clear hW
  have BW := chain b1 bW
  replace sz := sz.keep bW (Nat.le_refl _)
  replace sr := sr.keep bW (Nat.le_refl _)
  replace sx := sx.keep bW (Nat.le_refl _)
  have inv := cheap_inv zs rs b t f wt xs vl 3
  obtain ⟨bs, ebs⟩ : ∃ bs, bs = (cheapN zs rs b t f wt xs vl 3).1 := ⟨_, rfl⟩
  obtain ⟨ls, els⟩ : ∃ ls, ls = (cheapN zs rs b t f wt xs vl 3).2 := ⟨_, rfl⟩
  have CI := cheapI zs rs a b t f wt xs vl _ _ _ W kz kr oa ot of sz sr sx
  have CS := fun (Q : World) (h1 : SliceOf Q 2 ZoneD.vals (.slice Az zs.length cz) zs) h2 h3 => cheapS zs rs a b t f wt xs vl _ (.slice Ar rs.length cr) (.slice A xs.length c) Q kz kr oa ot of h1 h2 h3
  unfold CheapP at CI CS
  rw [← ebs, ← els] at CI inv
  simp only [← ebs, ← els] at CS
  clear ebs els
  have INV := Lib.hid inv
  clear inv
  have hne : (bs != bs) = false := by simp
  refine CI.mono ?_
  rintro e w2 ⟨rfl, b2⟩
  clear CI
  have B2 := chain BW b2
  replace z0 := cell_keep b2 z0
  replace z1 := cell_keep b2 z1
  replace z2 := cell_keep b2 z2
  replace z3 := cell_keep b2 z3
  replace z4 := cell_keep b2 z4
  replace z5 := cell_keep b2 z5
  replace z6 := cell_keep b2 z6
  replace sz := sz.keep b2 (Nat.le_refl _)
  replace sr := sr.keep b2 (Nat.le_refl _)
  replace sx := sx.keep b2 (Nat.le_refl _)
  go_wp2_with fail
  refine (CS _ sz sr sx).mono ?_
  rintro e w3 ⟨rfl, b3⟩
  clear CS
  have B3 := chain B2 b3
  replace z0 := cell_keep b3 z0
  replace z1 := cell_keep b3 z1
  replace z2 := cell_keep b3 z2
  replace z3 := cell_keep b3 z3
  replace z4 := cell_keep b3 z4
  replace z5 := cell_keep b3 z5
  replace z6 := cell_keep b3 z6
  replace sz := sz.keep b3 (Nat.le_refl _)
  replace sr := sr.keep b3 (Nat.le_refl _)
  replace sx := sx.keep b3 (Nat.le_refl _)
  go_wp2_with fail
  rcases INV.out with ⟨i1, i2, i3⟩ | ⟨j, hj, i1, i2, i3⟩
  · subst i1 i2
    have NN := Lib.hid i3; clear i3 INV
    go_loopw [10, 11] (fun sv iv wr => ∃ (k : Nat) (sb : Bool), k ≤ 3 ∧ sv = .bool sb ∧ iv = .int .i64 ((k : Int) + 1) ∧ Hid (sb = false) ∧ Below w.heap.size w wr ∧ wr.cell? ⟨w1.heap.size, 0, none⟩ = some (.int .i64 a) ∧ wr.cell? ⟨w1.heap.size, 1, none⟩ = some (.int .i64 b) ∧ wr.cell? ⟨w1.heap.size, 2, none⟩ = some (.string t) ∧ wr.cell? ⟨w1.heap.size, 3, none⟩ = some (.string f) ∧ wr.cell? ⟨w1.heap.size, 4, none⟩ = some (.int .i64 wt) ∧ wr.cell? ⟨w1.heap.size, 5, none⟩ = some (.slice A xs.length c) ∧ wr.cell? ⟨w1.heap.size, 6, none⟩ = some (.int .i64 vl) ∧ SliceOf wr 2 ZoneD.vals (.slice Az zs.length cz) zs ∧ SliceOf wr 4 RateD.vals (.slice Ar rs.length cr) rs ∧ SliceOf wr 1 vI (.slice A xs.length c) xs) (fun _ iv _ => 4 - (intOf iv).toNat)
    case atStart => exact ⟨0, false, by omega, rfl, rfl, Lib.hid (by simp), B3, z0, z1, z2, z3, z4, z5, z6, sz, sr, sx⟩
    case round =>
      clear B3 z0 z1 z2 z3 z4 z5 z6 sz sr sx
      obtain ⟨k, sb, hk, rfl, rfl, HS, hB, z0, z1, z2, z3, z4, z5, z6, sz, sr, sx⟩ := hrel
      by_cases hlt : k < 3
      · have hle : (k : Int) + 1 ≤ 3 := by omega
        go_wp2_with fail
        obtain ⟨X, hX⟩ : ∃ X, X = wr.alloc (.cells #[.int .i64 ((k : Int) + 1), .int .i64 b, .string t, .string f, .int .i64 wt, .slice A xs.length c, .int .i64 vl] 41) := ⟨_, rfl⟩
        rw [← hX]
        have b5 : Below wr.heap.size wr X := by rw [hX]; exact go_alloc_belowH _ _
        clear hX
        have B5 := chain hB b5
        replace z0 := cell_keep b5 z0
        replace z1 := cell_keep b5 z1
        replace z2 := cell_keep b5 z2
        replace z3 := cell_keep b5 z3
        replace z4 := cell_keep b5 z4
        replace z5 := cell_keep b5 z5
        replace z6 := cell_keep b5 z6
        replace sz := sz.keep b5 (Nat.le_refl _)
        replace sr := sr.keep b5 (Nat.le_refl _)
        replace sx := sx.keep b5 (Nat.le_refl _)
        obtain ⟨Q, hQ⟩ : ∃ Q, Q = priceOpt zs rs ((k : Int) + 1) b t f wt xs vl := ⟨_, rfl⟩
        have CP := priceI zs rs ((k : Int) + 1) b t f wt xs vl _ _ _ X kz kr (by unfold okI; omega) ot of sz sr sx
        rw [← hQ] at CP
        have HQ := Lib.hid hQ; clear hQ
        refine CP.mono ?_
        rintro e w6 ⟨rfl, b6⟩
        clear CP
        have B6 := chain B5 b6
        replace z0 := cell_keep b6 z0
        replace z1 := cell_keep b6 z1
        replace z2 := cell_keep b6 z2
        replace z3 := cell_keep b6 z3
        replace z4 := cell_keep b6 z4
        replace z5 := cell_keep b6 z5
        replace z6 := cell_keep b6 z6
        replace sz := sz.keep b6 (Nat.le_refl _)
        replace sr := sr.keep b6 (Nat.le_refl _)
        replace sx := sx.keep b6 (Nat.le_refl _)
        have hn : Q = none := by rw [HQ.out]; exact NN.out k hlt
        subst hn
        have hsb : sb = false := HS.out
        subst hsb
        simp only [pV, Option.isSome]
        go_wp2_with fail
        go_roundw
        case rel => exact ⟨k + 1, _, by omega, rfl, by go_num, HS, B6, z0, z1, z2, z3, z4, z5, z6, sz, sr, sx⟩
        case measure => simp [intOf]; omega
      · obtain rfl : k = 3 := by omega
        have h4 : ¬ ((3 : Nat) : Int) + 1 ≤ 3 := by omega
        have j6 : sb = false := HS.out
        subst j6
        go_wp2_with fail
        go_ret
        exact ⟨rfl, hB⟩
  · subst i1
    have HJ := Lib.hid i2; have HM := Lib.hid i3; clear i2 i3 INV
    go_loopw [10, 11] (fun sv iv wr => ∃ (k : Nat) (sb : Bool), k ≤ 3 ∧ sv = .bool sb ∧ iv = .int .i64 ((k : Int) + 1) ∧ Hid (sb = decide (j < k)) ∧ Below w.heap.size w wr ∧ wr.cell? ⟨w1.heap.size, 0, none⟩ = some (.int .i64 a) ∧ wr.cell? ⟨w1.heap.size, 1, none⟩ = some (.int .i64 b) ∧ wr.cell? ⟨w1.heap.size, 2, none⟩ = some (.string t) ∧ wr.cell? ⟨w1.heap.size, 3, none⟩ = some (.string f) ∧ wr.cell? ⟨w1.heap.size, 4, none⟩ = some (.int .i64 wt) ∧ wr.cell? ⟨w1.heap.size, 5, none⟩ = some (.slice A xs.length c) ∧ wr.cell? ⟨w1.heap.size, 6, none⟩ = some (.int .i64 vl) ∧ SliceOf wr 2 ZoneD.vals (.slice Az zs.length cz) zs ∧ SliceOf wr 4 RateD.vals (.slice Ar rs.length cr) rs ∧ SliceOf wr 1 vI (.slice A xs.length c) xs) (fun _ iv _ => 4 - (intOf iv).toNat)
    case atStart => exact ⟨0, false, by omega, rfl, rfl, Lib.hid (by simp), B3, z0, z1, z2, z3, z4, z5, z6, sz, sr, sx⟩
    case round =>
      clear B3 z0 z1 z2 z3 z4 z5 z6 sz sr sx
      obtain ⟨k, sb, hk, rfl, rfl, HS, hB, z0, z1, z2, z3, z4, z5, z6, sz, sr, sx⟩ := hrel
      by_cases hlt : k < 3
      · have hle : (k : Int) + 1 ≤ 3 := by omega
        go_wp2_with fail
        obtain ⟨X, hX⟩ : ∃ X, X = wr.alloc (.cells #[.int .i64 ((k : Int) + 1), .int .i64 b, .string t, .string f, .int .i64 wt, .slice A xs.length c, .int .i64 vl] 41) := ⟨_, rfl⟩
        rw [← hX]
        have b5 : Below wr.heap.size wr X := by rw [hX]; exact go_alloc_belowH _ _
        clear hX
        have B5 := chain hB b5
        replace z0 := cell_keep b5 z0
        replace z1 := cell_keep b5 z1
        replace z2 := cell_keep b5 z2
        replace z3 := cell_keep b5 z3
        replace z4 := cell_keep b5 z4
        replace z5 := cell_keep b5 z5
        replace z6 := cell_keep b5 z6
        replace sz := sz.keep b5 (Nat.le_refl _)
        replace sr := sr.keep b5 (Nat.le_refl _)
        replace sx := sx.keep b5 (Nat.le_refl _)
        obtain ⟨Q, hQ⟩ : ∃ Q, Q = priceOpt zs rs ((k : Int) + 1) b t f wt xs vl := ⟨_, rfl⟩
        have CP := priceI zs rs ((k : Int) + 1) b t f wt xs vl _ _ _ X kz kr (by unfold okI; omega) ot of sz sr sx
        rw [← hQ] at CP
        have HQ := Lib.hid hQ; clear hQ
        refine CP.mono ?_
        rintro e w6 ⟨rfl, b6⟩
        clear CP
        have B6 := chain B5 b6
        replace z0 := cell_keep b6 z0
        replace z1 := cell_keep b6 z1
        replace z2 := cell_keep b6 z2
        replace z3 := cell_keep b6 z3
        replace z4 := cell_keep b6 z4
        replace z5 := cell_keep b6 z5
        replace z6 := cell_keep b6 z6
        replace sz := sz.keep b6 (Nat.le_refl _)
        replace sr := sr.keep b6 (Nat.le_refl _)
        replace sx := sx.keep b6 (Nat.le_refl _)
        cases Q with
        | none =>
          have hkj : k ≠ j := fun e => by subst e; rw [HJ.out] at HQ; exact absurd HQ.out (by simp)
          have HS2 : Hid (sb = decide (j < k + 1)) := Lib.hid (by rw [HS.out, decide_eq_decide]; omega)
          clear hkj
          simp only [pV, Option.isSome]
          cases sb
          all_goals
            go_wp2_with fail
            go_roundw
            case rel => exact ⟨k + 1, _, by omega, rfl, by go_num, HS2, B6, z0, z1, z2, z3, z4, z5, z6, sz, sr, sx⟩
            case measure => simp [intOf]; omega
        | some x =>
          obtain ⟨l1, l2⟩ := HM.out k hlt x HQ.out.symm
          have HSo := HS.out
          have j1 : (((j : Int) + 1) == 0) = false := by simp; omega
          have j2 : decide (x < ls) = false := decide_eq_false (by omega)
          simp only [pV, Option.isSome]
          by_cases hkj : k = j
          · subst hkj
            have e1 : x = ls := by have := HQ.out.trans HJ.out; injection this
            subst e1
            have j6 : sb = false := by rw [HSo]; exact decide_eq_false (by omega)
            clear l1 l2 HSo j2
            have j2 : decide (x < x) = false := decide_eq_false (by omega)
            have j4 : decide ((k : Int) + 1 < (k : Int) + 1) = false := decide_eq_false (by omega)
            subst j6
            go_wp2_with fail
            go_roundw
            case rel => exact ⟨k + 1, true, by omega, rfl, by go_num, Lib.hid (decide_eq_true (by omega)).symm, B6, z0, z1, z2, z3, z4, z5, z6, sz, sr, sx⟩
            case measure => simp [intOf]; omega
          · have j5 : ((k : Int) + 1 == (j : Int) + 1) = false := by simp; omega
            have j7 : decide (k = j) = false := decide_eq_false hkj
            have j8 : (k == j) = false := by simp; omega
            have HS2 : Hid (sb = decide (j < k + 1)) := Lib.hid (by rw [HS.out, decide_eq_decide]; omega)
            cases j3 : (x == ls)
            · clear l1 l2 HSo
              cases sb
              all_goals
                go_wp2_with fail
                go_roundw
                case rel => exact ⟨k + 1, _, by omega, rfl, by go_num, HS2, B6, z0, z1, z2, z3, z4, z5, z6, sz, sr, sx⟩
                case measure => simp [intOf]; omega
            · have j4 : decide ((k : Int) + 1 < (j : Int) + 1) = false := decide_eq_false (by have := l2 (by simpa using j3); omega)
              have j9 : ¬ k < j := by have := l2 (by simpa using j3); omega
              have j10 : decide (k < j) = false := decide_eq_false j9
              clear l1 l2 HSo
              cases sb
              all_goals
                go_wp2_with fail
                go_roundw
                case rel => exact ⟨k + 1, _, by omega, rfl, by go_num, HS2, B6, z0, z1, z2, z3, z4, z5, z6, sz, sr, sx⟩
                case measure => simp [intOf]; omega
      · obtain rfl : k = 3 := by omega
        have h4 : ¬ ((3 : Nat) : Int) + 1 ≤ 3 := by omega
        have j6 : sb = true := by rw [HS.out]; exact decide_eq_true hj
        have j7 : (((j : Int) + 1) != 0) = true := by simp; omega
        subst j6
        go_wp2_with fail
        go_ret
        exact ⟨rfl, hB⟩
end Go.Proofs.Yteolobffmldfhaa
