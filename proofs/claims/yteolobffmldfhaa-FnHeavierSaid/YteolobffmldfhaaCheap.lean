/- What CheapestService answers: the program's and the reference's alike. No condition. -/
import Derived.Test.YteolobffmldfhaaPrice
namespace Go.Proofs.Yteolobffmldfhaa
open Go.RowKit Go.PlainAid
set_option maxRecDepth 100000
set_option linter.unusedVariables false
/-- One service more. -/
def better (s : Int) (q : Option Int) (st : Int × Int) : Int × Int :=
  match q with
  | none => st
  | some x => if (st.1 == 0) || decide (x < st.2) then (s, x) else st
def cheapN (zs : List ZoneD) (rs : List RateD) (b : Int) (t f : ByteArray) (wt : Int) (xs : List Int) (vl : Int) : Nat → Int × Int
  | 0 => (0, 0)
  | k + 1 => better ((k : Int) + 1) (priceOpt zs rs ((k : Int) + 1) b t f wt xs vl) (cheapN zs rs b t f wt xs vl k)
def CheapP (q : Int × Int) (w : World) (e : Ending) (w' : World) : Prop := e = .returned (.tuple #[.int .i64 q.1, .int .i64 q.2]) ∧ Below w.heap.size w w'
theorem ret_two {x y p q : Int} (h1 : p = x) (h2 : q = y) : Ending.returned (.tuple #[.int .i64 x, .int .i64 y]) = .returned (.tuple #[.int .i64 p, .int .i64 q]) := by rw [h1, h2]
theorem better_none (s : Int) (st : Int × Int) : better s none st = st := rfl
theorem better_take {s x : Int} {st : Int × Int} (h : (st.1 == 0) = true ∨ decide (x < st.2) = true) : better s (some x) st = (s, x) := by
  simp only [better]; rw [if_pos (by rcases h with h | h <;> rw [h] <;> simp)]
theorem better_keep {s x : Int} {st : Int × Int} (h1 : (st.1 == 0) = false) (h2 : decide (x < st.2) = false) : better s (some x) st = st := by
  simp only [better]; rw [if_neg (by rw [h1, h2]; simp)]
set_option maxHeartbeats 6400000 in
theorem cheapI (zs : List ZoneD) (rs : List RateD) (a b : Int) (t f : ByteArray) (wt : Int) (xs : List Int) (vl : Int) (vz vr V : Value) (w : World) (hokz : ∀ x ∈ zs, x.ok) (hokr : ∀ x ∈ rs, x.ok) (ha : okI a) (ht : t.size ≤ maxLen) (hf : f.size ≤ maxLen)
    (hz : SliceOf w 2 ZoneD.vals vz zs) (hr : SliceOf w 4 RateD.vals vr rs) (sl : SliceOf w 1 vI V xs) : Calls Try.prog 40 #[vz, vr, .agg #[.int .i64 a, .int .i64 b, .string t, .string f, .int .i64 wt, V, .int .i64 vl]] w (CheapP (cheapN zs rs b t f wt xs vl 3) w) := by
  obtain ⟨Az, cz, rfl, -, -⟩ := hz.form
  obtain ⟨Ar, cr, rfl, -, -⟩ := hr.form
  obtain ⟨A, c, rfl, -, -⟩ := sl.form
  go_enter Try.func40, Try.ntmps40
  go_wp2_with fail
  obtain ⟨W, hW⟩ : ∃ W, W = w.alloc (.cells #[.int .i64 a, .int .i64 b, .string t, .string f, .int .i64 wt, .slice A xs.length c, .int .i64 vl] 41) := ⟨_, rfl⟩
  rw [← hW]
  have z0 : W.cell? ⟨w.heap.size, 0, none⟩ = some (.int .i64 a) := by rw [hW]; simp [go_sem]
  have z1 : W.cell? ⟨w.heap.size, 1, none⟩ = some (.int .i64 b) := by rw [hW]; simp [go_sem]
  have z2 : W.cell? ⟨w.heap.size, 2, none⟩ = some (.string t) := by rw [hW]; simp [go_sem]
  have z3 : W.cell? ⟨w.heap.size, 3, none⟩ = some (.string f) := by rw [hW]; simp [go_sem]
  have z4 : W.cell? ⟨w.heap.size, 4, none⟩ = some (.int .i64 wt) := by rw [hW]; simp [go_sem]
  have z5 : W.cell? ⟨w.heap.size, 5, none⟩ = some (.slice A xs.length c) := by rw [hW]; simp [go_sem]
  have z6 : W.cell? ⟨w.heap.size, 6, none⟩ = some (.int .i64 vl) := by rw [hW]; simp [go_sem]
  have fz : W.frozen? ⟨w.heap.size, 0, none⟩ = false := by rw [hW]; simp [go_sem]
  have B0 : Below w.heap.size w W := by rw [hW]; go_grown
  clear hW
  go_loopw [8, 9, 10] (fun bv lv sv wr => ∃ (k : Nat) (bs ls : Int), k ≤ 3 ∧ bv = .int .i64 bs ∧ lv = .int .i64 ls ∧ sv = .int .i64 ((k : Int) + 1) ∧ Below w.heap.size w wr ∧ wr.cell? ⟨w.heap.size, 1, none⟩ = some (.int .i64 b) ∧ wr.cell? ⟨w.heap.size, 2, none⟩ = some (.string t) ∧ wr.cell? ⟨w.heap.size, 3, none⟩ = some (.string f) ∧ wr.cell? ⟨w.heap.size, 4, none⟩ = some (.int .i64 wt) ∧ wr.cell? ⟨w.heap.size, 5, none⟩ = some (.slice A xs.length c) ∧ wr.cell? ⟨w.heap.size, 6, none⟩ = some (.int .i64 vl) ∧ (∃ u, wr.cell? ⟨w.heap.size, 0, none⟩ = some u) ∧ wr.frozen? ⟨w.heap.size, 0, none⟩ = false ∧ Hid ((bs, ls) = cheapN zs rs b t f wt xs vl k)) (fun _ _ sv _ => 4 - (intOf sv).toNat)
  case atStart => exact ⟨0, 0, 0, by omega, rfl, rfl, rfl, B0, z1, z2, z3, z4, z5, z6, ⟨_, z0⟩, fz, rfl⟩
  case round =>
    obtain ⟨k, bs, ls, hk, rfl, rfl, rfl, hB, z1, z2, z3, z4, z5, z6, ⟨u0, z0⟩, fz, H⟩ := hrel
    by_cases hlt : k < 3
    · have hle : (k : Int) + 1 ≤ 3 := by omega
      go_wp2_with fail
      obtain ⟨X, hX⟩ : ∃ X, X = wr.setCell ⟨w.heap.size, 0, none⟩ (.int .i64 ((k : Int) + 1)) := ⟨_, rfl⟩
      rw [← hX]
      have x0 : X.cell? ⟨w.heap.size, 0, none⟩ = some (.int .i64 ((k : Int) + 1)) := by rw [hX]; exact World.cell?_setCell_same _ _ _ z0
      have x1 : X.cell? ⟨w.heap.size, 1, none⟩ = some (.int .i64 b) := by rw [hX]; simp [go_sem, z1]
      have x2 : X.cell? ⟨w.heap.size, 2, none⟩ = some (.string t) := by rw [hX]; simp [go_sem, z2]
      have x3 : X.cell? ⟨w.heap.size, 3, none⟩ = some (.string f) := by rw [hX]; simp [go_sem, z3]
      have x4 : X.cell? ⟨w.heap.size, 4, none⟩ = some (.int .i64 wt) := by rw [hX]; simp [go_sem, z4]
      have x5 : X.cell? ⟨w.heap.size, 5, none⟩ = some (.slice A xs.length c) := by rw [hX]; simp [go_sem, z5]
      have x6 : X.cell? ⟨w.heap.size, 6, none⟩ = some (.int .i64 vl) := by rw [hX]; simp [go_sem, z6]
      have xf : X.frozen? ⟨w.heap.size, 0, none⟩ = false := by rw [hX]; simp [go_sem, fz]
      have BX : Below w.heap.size w X := by rw [hX]; exact hB.setCell (by simp only; omega) _
      clear hX
      have hlX : w.heap.size < X.heap.size := cell_lt x0
      obtain ⟨q, hq⟩ : ∃ q, q = priceOpt zs rs ((k : Int) + 1) b t f wt xs vl := ⟨_, rfl⟩
      have CP := priceI zs rs ((k : Int) + 1) b t f wt xs vl _ _ _ X hokz hokr (by unfold okI; omega) ht hf (hz.keep BX (Nat.le_refl _)) (hr.keep BX (Nat.le_refl _)) (sl.keep BX (Nat.le_refl _))
      rw [← hq] at CP
      have HQ := Lib.hid hq
      clear hq
      refine CP.mono ?_
      rintro e w2 ⟨rfl, b2⟩
      have B2 := chain BX b2
      replace x0 := cell_keep b2 x0
      replace x1 := cell_keep b2 x1
      replace x2 := cell_keep b2 x2
      replace x3 := cell_keep b2 x3
      replace x4 := cell_keep b2 x4
      replace x5 := cell_keep b2 x5
      replace x6 := cell_keep b2 x6
      have lx : w.heap.size < X.heap.size := hlX
      replace xf := (b2.frozen (p := ⟨w.heap.size, 0, none⟩) lx).trans xf
      clear b2 CP
      cases q with
      | none =>
        go_wp2_with fail
        go_roundw
        case rel => exact ⟨k + 1, bs, ls, by omega, rfl, rfl, by go_num, B2, x1, x2, x3, x4, x5, x6, ⟨_, x0⟩, xf, Lib.hid (by rw [cheapN, ← HQ.out, better_none]; exact H.out)⟩
        case measure => simp [intOf]; omega
      | some x =>
        simp only [pV, Option.isSome]
        cases h1 : (bs == 0)
        · cases h2 : decide (x < ls)
          · go_wp2_with fail
            go_roundw
            case rel => exact ⟨k + 1, bs, ls, by omega, rfl, rfl, by go_num, B2, x1, x2, x3, x4, x5, x6, ⟨_, x0⟩, xf, Lib.hid (by rw [cheapN, ← HQ.out, ← H.out, better_keep h1 h2])⟩
            case measure => simp [intOf]; omega
          · go_wp2_with fail
            go_roundw
            case rel => exact ⟨k + 1, (k : Int) + 1, x, by omega, rfl, rfl, by go_num, B2, x1, x2, x3, x4, x5, x6, ⟨_, x0⟩, xf, Lib.hid (by rw [cheapN, ← HQ.out, ← H.out, better_take (.inr h2)])⟩
            case measure => simp [intOf]; omega
        · go_wp2_with fail
          go_roundw
          case rel => exact ⟨k + 1, (k : Int) + 1, x, by omega, rfl, rfl, by go_num, B2, x1, x2, x3, x4, x5, x6, ⟨_, x0⟩, xf, Lib.hid (by rw [cheapN, ← HQ.out, ← H.out, better_take (.inl h1)])⟩
          case measure => simp [intOf]; omega
    · obtain rfl : k = 3 := by omega
      have e1 : bs = (cheapN zs rs b t f wt xs vl 3).1 := by rw [← H.out]
      have e2 : ls = (cheapN zs rs b t f wt xs vl 3).2 := by rw [← H.out]
      have E1 := Lib.hid e1
      have E2 := Lib.hid e2
      clear e1 e2
      have h4 : ¬ ((3 : Nat) : Int) + 1 ≤ 3 := by omega
      go_wp2_with fail
      go_ret2
      exact ⟨ret_two E1.out.symm E2.out.symm, hB⟩
set_option maxHeartbeats 6400000 in
theorem cheapS (zs : List ZoneD) (rs : List RateD) (a b : Int) (t f : ByteArray) (wt : Int) (xs : List Int) (vl : Int) (vz vr V : Value) (w : World) (hokz : ∀ x ∈ zs, x.ok) (hokr : ∀ x ∈ rs, x.ok) (ha : okI a) (ht : t.size ≤ maxLen) (hf : f.size ≤ maxLen)
    (hz : SliceOf w 2 ZoneD.vals vz zs) (hr : SliceOf w 4 RateD.vals vr rs) (sl : SliceOf w 1 vI V xs) : Calls Try.prog 41 #[vz, vr, .agg #[.int .i64 a, .int .i64 b, .string t, .string f, .int .i64 wt, V, .int .i64 vl]] w (CheapP (cheapN zs rs b t f wt xs vl 3) w) := by
  obtain ⟨Az, cz, rfl, -, -⟩ := hz.form
  obtain ⟨Ar, cr, rfl, -, -⟩ := hr.form
  obtain ⟨A, c, rfl, -, -⟩ := sl.form
  go_enter Try.func41, Try.ntmps41
  go_wp2_with fail
  obtain ⟨W, hW⟩ : ∃ W, W = w.alloc (.cells #[.int .i64 a, .int .i64 b, .string t, .string f, .int .i64 wt, .slice A xs.length c, .int .i64 vl] 41) := ⟨_, rfl⟩
  rw [← hW]
  have z0 : W.cell? ⟨w.heap.size, 0, none⟩ = some (.int .i64 a) := by rw [hW]; simp [go_sem]
  have z1 : W.cell? ⟨w.heap.size, 1, none⟩ = some (.int .i64 b) := by rw [hW]; simp [go_sem]
  have z2 : W.cell? ⟨w.heap.size, 2, none⟩ = some (.string t) := by rw [hW]; simp [go_sem]
  have z3 : W.cell? ⟨w.heap.size, 3, none⟩ = some (.string f) := by rw [hW]; simp [go_sem]
  have z4 : W.cell? ⟨w.heap.size, 4, none⟩ = some (.int .i64 wt) := by rw [hW]; simp [go_sem]
  have z5 : W.cell? ⟨w.heap.size, 5, none⟩ = some (.slice A xs.length c) := by rw [hW]; simp [go_sem]
  have z6 : W.cell? ⟨w.heap.size, 6, none⟩ = some (.int .i64 vl) := by rw [hW]; simp [go_sem]
  have fz : W.frozen? ⟨w.heap.size, 0, none⟩ = false := by rw [hW]; simp [go_sem]
  have B0 : Below w.heap.size w W := by rw [hW]; go_grown
  clear hW
  go_loopw [8, 9, 10] (fun bv lv sv wr => ∃ (k : Nat) (bs ls : Int), k ≤ 3 ∧ bv = .int .i64 bs ∧ lv = .int .i64 ls ∧ sv = .int .i64 ((k : Int) + 1) ∧ Below w.heap.size w wr ∧ wr.cell? ⟨w.heap.size, 1, none⟩ = some (.int .i64 b) ∧ wr.cell? ⟨w.heap.size, 2, none⟩ = some (.string t) ∧ wr.cell? ⟨w.heap.size, 3, none⟩ = some (.string f) ∧ wr.cell? ⟨w.heap.size, 4, none⟩ = some (.int .i64 wt) ∧ wr.cell? ⟨w.heap.size, 5, none⟩ = some (.slice A xs.length c) ∧ wr.cell? ⟨w.heap.size, 6, none⟩ = some (.int .i64 vl) ∧ wr.cell? ⟨w.heap.size, 0, none⟩ = some (.int .i64 a) ∧ Hid ((bs, ls) = cheapN zs rs b t f wt xs vl k)) (fun _ _ sv _ => 4 - (intOf sv).toNat)
  case atStart => exact ⟨0, 0, 0, by omega, rfl, rfl, rfl, B0, z1, z2, z3, z4, z5, z6, z0, rfl⟩
  case round =>
    obtain ⟨k, bs, ls, hk, rfl, rfl, rfl, hB, z1, z2, z3, z4, z5, z6, z0, H⟩ := hrel
    by_cases hlt : k < 3
    · have hle : (k : Int) + 1 ≤ 3 := by omega
      go_wp2_with fail
      obtain ⟨X, hX⟩ : ∃ X, X = wr.alloc (.cells #[.int .i64 ((k : Int) + 1), .int .i64 b, .string t, .string f, .int .i64 wt, .slice A xs.length c, .int .i64 vl] 41) := ⟨_, rfl⟩
      rw [← hX]
      have BX0 : Below wr.heap.size wr X := by rw [hX]; go_grown
      have BX := chain hB BX0
      clear hX
      have x0 := cell_keep BX0 z0
      have x1 := cell_keep BX0 z1
      have x2 := cell_keep BX0 z2
      have x3 := cell_keep BX0 z3
      have x4 := cell_keep BX0 z4
      have x5 := cell_keep BX0 z5
      have x6 := cell_keep BX0 z6
      obtain ⟨q, hq⟩ : ∃ q, q = priceOpt zs rs ((k : Int) + 1) b t f wt xs vl := ⟨_, rfl⟩
      have CP := priceS zs rs ((k : Int) + 1) b t f wt xs vl _ _ _ X hokz hokr (by unfold okI; omega) ht hf (hz.keep BX (Nat.le_refl _)) (hr.keep BX (Nat.le_refl _)) (sl.keep BX (Nat.le_refl _))
      rw [← hq] at CP
      have HQ := Lib.hid hq
      clear hq
      refine CP.mono ?_
      rintro e w2 ⟨rfl, b2⟩
      have B2 := chain BX b2
      replace x0 := cell_keep b2 x0
      replace x1 := cell_keep b2 x1
      replace x2 := cell_keep b2 x2
      replace x3 := cell_keep b2 x3
      replace x4 := cell_keep b2 x4
      replace x5 := cell_keep b2 x5
      replace x6 := cell_keep b2 x6
      clear b2 CP
      cases q with
      | none =>
        go_wp2_with fail
        go_roundw
        case rel => exact ⟨k + 1, bs, ls, by omega, rfl, rfl, by go_num, B2, x1, x2, x3, x4, x5, x6, x0, Lib.hid (by rw [cheapN, ← HQ.out, better_none]; exact H.out)⟩
        case measure => simp [intOf]; omega
      | some x =>
        simp only [pV, Option.isSome]
        cases h1 : (bs == 0)
        · cases h2 : decide (x < ls)
          · go_wp2_with fail
            go_roundw
            case rel => exact ⟨k + 1, bs, ls, by omega, rfl, rfl, by go_num, B2, x1, x2, x3, x4, x5, x6, x0, Lib.hid (by rw [cheapN, ← HQ.out, ← H.out, better_keep h1 h2])⟩
            case measure => simp [intOf]; omega
          · go_wp2_with fail
            go_roundw
            case rel => exact ⟨k + 1, (k : Int) + 1, x, by omega, rfl, rfl, by go_num, B2, x1, x2, x3, x4, x5, x6, x0, Lib.hid (by rw [cheapN, ← HQ.out, ← H.out, better_take (.inr h2)])⟩
            case measure => simp [intOf]; omega
        · go_wp2_with fail
          go_roundw
          case rel => exact ⟨k + 1, (k : Int) + 1, x, by omega, rfl, rfl, by go_num, B2, x1, x2, x3, x4, x5, x6, x0, Lib.hid (by rw [cheapN, ← HQ.out, ← H.out, better_take (.inl h1)])⟩
          case measure => simp [intOf]; omega
    · obtain rfl : k = 3 := by omega
      have e1 : bs = (cheapN zs rs b t f wt xs vl 3).1 := by rw [← H.out]
      have e2 : ls = (cheapN zs rs b t f wt xs vl 3).2 := by rw [← H.out]
      have E1 := Lib.hid e1
      have E2 := Lib.hid e2
      clear e1 e2
      have h4 : ¬ ((3 : Nat) : Int) + 1 ≤ 3 := by omega
      go_wp2_with fail
      go_ret2
      exact ⟨ret_two E1.out.symm E2.out.symm, hB⟩
end Go.Proofs.Yteolobffmldfhaa
