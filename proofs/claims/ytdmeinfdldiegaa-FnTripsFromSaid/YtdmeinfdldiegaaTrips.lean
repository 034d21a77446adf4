/- Trips of a network: RunsOn, IsTrip, when they start and end; the program's and the reference's alike. No condition. -/
import Derived.Test.YtdmeinfdldiegaaRuns
import Derived.Test.YtdmeinfdldiegaaNet
import Derived.Deep.RegionHeld3
namespace Go.Proofs.Ytdmeinfdldiegaa
open Go.RowKit Go.PlainAid
set_option maxRecDepth 100000
set_option linter.unusedVariables false
/-- A leg runs on a day in a valid network. -/
def runsOnB (legs : List LegD) (off : List Int) (ch leg day : Int) : Bool := netB legs off ch && runsB legs off leg day
theorem runsB_some {legs : List LegD} {off : List Int} {leg day : Int} (h : runsB legs off leg day = true) : ∃ n : Nat, leg = (n : Int) ∧ n < legs.length ∧ 0 ≤ day ∧ day ≤ 60 := by
  by_cases h0 : leg < 0 ∨ (legs.length : Int) ≤ leg
  · rw [runsB_legs h0] at h; exact absurd h (by simp)
  · cases hr : rng day 0 60
    · rw [runsB_day hr] at h; exact absurd h (by simp)
    · obtain ⟨hd1, hd2⟩ := rng_iff.1 hr
      obtain ⟨n, rfl⟩ := Int.eq_ofNat_of_zero_le (by omega : 0 ≤ leg)
      exact ⟨n, rfl, by omega, hd1, hd2⟩
theorem runsOn_some {legs : List LegD} {off : List Int} {ch leg day : Int} (h : runsOnB legs off ch leg day = true) : netB legs off ch = true ∧ ∃ n : Nat, leg = (n : Int) ∧ n < legs.length ∧ 0 ≤ day ∧ day ≤ 60 := by
  unfold runsOnB at h
  simp only [Bool.and_eq_true] at h
  exact ⟨h.1, runsB_some h.2⟩
/-- When a trip starts and ends, by the legs alone. -/
def startT (legs : List LegD) (leg day : Int) : Int := day * 1440 + (match legs[leg.toNat]? with | some x => x.start | none => 0)
def endT (legs : List LegD) (leg day : Int) : Int := startT legs leg day + (match legs[leg.toNat]? with | some x => x.takes | none => 0)

set_option maxHeartbeats 1600000 in
theorem runsOnI (legs : List LegD) (off : List Int) (ch leg day : Int) (l o : Value) (w : World) (hok : ∀ x ∈ legs, x.ok) (hleg : okI leg) (hday : okI day) (sl : SliceOf w 6 LegD.vals l legs) (so : SliceOf w 1 vI o off) :
    Calls Try.prog 46 #[.agg #[l, o, .int .i64 ch], .int .i64 leg, .int .i64 day] w fun e w' => e = .returned (.bool (runsOnB legs off ch leg day)) ∧ Below w.heap.size w w' := by
  obtain ⟨A, c, rfl, -, -⟩ := sl.form
  obtain ⟨A', c', rfl, -, -⟩ := so.form
  go_enter Try.func46, Try.ntmps46
  go_wp2_with fail
  obtain ⟨W, hW⟩ : ∃ W, W = w.alloc (.cells #[.slice A legs.length c, .slice A' off.length c', .int .i64 ch] 31) := ⟨_, rfl⟩
  try rw [← hW]
  have x0 : W.cell? ⟨w.heap.size, 0, none⟩ = some (.slice A legs.length c) := by rw [hW]; simp [go_sem]
  have x1 : W.cell? ⟨w.heap.size, 1, none⟩ = some (.slice A' off.length c') := by rw [hW]; simp [go_sem]
  have x2 : W.cell? ⟨w.heap.size, 2, none⟩ = some (.int .i64 ch) := by rw [hW]; simp [go_sem]
  have HW : Below w.heap.size w W := by rw [hW]; go_grown
  replace sl := sl.keep HW (Nat.le_refl _)
  replace so := so.keep HW (Nat.le_refl _)
  clear hW
  go_wp2_with fail
  refine (isNetI legs off ch _ _ _ hok sl so).mono ?_
  rintro e w1 ⟨rfl, b1⟩
  have B1 := chain HW b1
  replace x0 := cell_keep b1 x0
  replace x1 := cell_keep b1 x1
  replace x2 := cell_keep b1 x2
  replace sl := sl.keep b1 (Nat.le_refl _)
  replace so := so.keep b1 (Nat.le_refl _)
  cases hn : netB legs off ch
  · go_wp2_with fail
    go_ret
    exact ⟨ret_bool (by unfold runsOnB; rw [hn]; rfl), B1⟩
  · go_wp2_with fail
    refine (runsI legs off ch leg day _ _ _ hn hleg hday sl so).mono ?_
    rintro e w2 ⟨rfl, b2⟩
    have B2 := chain B1 b2
    go_wp2_with fail
    go_ret
    exact ⟨ret_bool (by unfold runsOnB; rw [hn]; rfl), B2⟩
set_option maxHeartbeats 1600000 in
theorem isTripI (legs : List LegD) (off : List Int) (ch leg day : Int) (l o : Value) (w : World) (hok : ∀ x ∈ legs, x.ok) (hleg : okI leg) (hday : okI day) (sl : SliceOf w 6 LegD.vals l legs) (so : SliceOf w 1 vI o off) :
    Calls Try.prog 17 #[.agg #[l, o, .int .i64 ch], .agg #[.int .i64 leg, .int .i64 day]] w fun e w' => e = .returned (.bool (runsOnB legs off ch leg day)) ∧ Below w.heap.size w w' := by
  obtain ⟨A, c, rfl, -, -⟩ := sl.form
  obtain ⟨A', c', rfl, -, -⟩ := so.form
  go_enter Try.func17, Try.ntmps17
  go_wp2_with fail
  obtain ⟨W, hW⟩ : ∃ W, W = (w.alloc (.cells #[.slice A legs.length c, .slice A' off.length c', .int .i64 ch] 31)).alloc (.cells #[.int .i64 leg, .int .i64 day] 45) := ⟨_, rfl⟩
  try rw [← hW]
  have HW : Below w.heap.size w W := by rw [hW]; go_grown
  replace sl := sl.keep HW (Nat.le_refl _)
  replace so := so.keep HW (Nat.le_refl _)
  clear hW
  refine (runsOnI legs off ch leg day _ _ _ hok hleg hday sl so).mono ?_
  rintro e w1 ⟨rfl, b1⟩
  have B1 := chain HW b1
  go_wp2_with fail
  go_ret
  exact ⟨rfl, B1⟩
set_option maxHeartbeats 1600000 in
theorem startsI (legs : List LegD) (off : List Int) (ch day : Int) (n : Nat) (l o : Value) (w : World) (hnet : netB legs off ch = true) (hlt : n < legs.length) (hd1 : 0 ≤ day) (hd2 : day ≤ 60) (sl : SliceOf w 6 LegD.vals l legs) (so : SliceOf w 1 vI o off) :
    Calls Try.prog 29 #[.agg #[l, o, .int .i64 ch], .agg #[.int .i64 (n : Int), .int .i64 day]] w fun e w' => e = .returned (.int .i64 (startT legs (n : Int) day)) ∧ Below w.heap.size w w' := by
  obtain ⟨A, c, rfl, -, -⟩ := sl.form
  obtain ⟨A', c', rfl, -, -⟩ := so.form
  have hcm : c ≤ maxLen := by obtain ⟨_, c0, e0, h1, h2⟩ := sl.form; injection e0 with e1 e2 e3; subst e3; exact h2
  unfold maxLen at hcm
  obtain ⟨b_, off_, x, rfl, hb_, hx, hc⟩ := sl.cells hlt
  have hs := netB_start hnet hx.out
  obtain ⟨f, t, a, b, d, r⟩ := x
  simp only at hs
  obtain ⟨⟨hs1, hs2⟩, hs3, hs4⟩ := hs
  have hst : startT legs (n : Int) day = day * 1440 + a := by unfold startT; rw [Int.toNat_natCast, hx.out]
  have hen : endT legs (n : Int) day = day * 1440 + a + b := by unfold endT; rw [hst, Int.toNat_natCast, hx.out]
  have HST := Lib.hid hst
  have HEN := Lib.hid hen
  have c2 : w.cell? ⟨b_, off_ + n * 6 + 2, none⟩ = some (.int .i64 a) := hc 2 _ rfl
  have c3 : w.cell? ⟨b_, off_ + n * 6 + 3, none⟩ = some (.int .i64 b) := hc 3 _ rfl
  have hn0 : (0 : Int) ≤ (n : Int) := by omega
  have hn1 : (n : Int) < (legs.length : Int) := by omega
  have wr1 : IntKind.i64.wrap (day * 1440) = day * 1440 := IntWalk.i64_in _ (by omega)
  have wr2 : IntKind.i64.wrap (day * 1440 + a) = day * 1440 + a := IntWalk.i64_in _ (by omega)
  have wr3 : IntKind.i64.wrap (day * 1440 + a + b) = day * 1440 + a + b := IntWalk.i64_in _ (by omega)
  clear hc hst hen
  go_enter Try.func29, Try.ntmps29
  go_wp2_with fail
  obtain ⟨W, hW⟩ : ∃ W, W = (w.alloc (.cells #[.slice (some ⟨b_, off_, none⟩) legs.length c, .slice A' off.length c', .int .i64 ch] 31)).alloc (.cells #[.int .i64 (n : Int), .int .i64 day] 45) := ⟨_, rfl⟩
  try rw [← hW]
  have x0 : W.cell? ⟨w.heap.size, 0, none⟩ = some (.slice (some ⟨b_, off_, none⟩) legs.length c) := by rw [hW]; simp [go_sem]
  have x1 : W.cell? ⟨w.heap.size, 1, none⟩ = some (.slice A' off.length c') := by rw [hW]; simp [go_sem]
  have x2 : W.cell? ⟨w.heap.size, 2, none⟩ = some (.int .i64 ch) := by rw [hW]; simp [go_sem]
  have y0 : W.cell? ⟨w.heap.size + 1, 0, none⟩ = some (.int .i64 (n : Int)) := by rw [hW]; simp [go_sem]
  have y1 : W.cell? ⟨w.heap.size + 1, 1, none⟩ = some (.int .i64 day) := by rw [hW]; simp [go_sem]
  have HW : Below w.heap.size w W := by rw [hW]; go_grown
  replace c2 := HW.cell (p := ⟨b_, _, none⟩) hb_ |>.trans c2
  replace c3 := HW.cell (p := ⟨b_, _, none⟩) hb_ |>.trans c3
  replace sl := sl.keep HW (Nat.le_refl _)
  replace so := so.keep HW (Nat.le_refl _)
  have hbW : b_ < W.heap.size := Nat.lt_of_lt_of_le hb_ HW.size
  clear hW hb_
  go_wp2
  go_quiet (fail)
  go_wp2
  go_ret
  exact ⟨by rw [HST.out]; rfl, below_drewN HW _⟩
set_option maxHeartbeats 1600000 in
theorem startsAtI (legs : List LegD) (off : List Int) (ch leg day : Int) (l o : Value) (w : World) (hok : ∀ x ∈ legs, x.ok) (hleg : okI leg) (hday : okI day) (sl : SliceOf w 6 LegD.vals l legs) (so : SliceOf w 1 vI o off) :
    Calls Try.prog 18 #[.agg #[l, o, .int .i64 ch], .agg #[.int .i64 leg, .int .i64 day]] w fun e w' => e = .returned (.int .i64 (bif runsOnB legs off ch leg day then startT legs leg day else -1)) ∧ Below w.heap.size w w' := by
  obtain ⟨A, c, rfl, -, -⟩ := sl.form
  obtain ⟨A', c', rfl, -, -⟩ := so.form
  go_enter Try.func18, Try.ntmps18
  go_wp2_with fail
  obtain ⟨W, hW⟩ : ∃ W, W = (w.alloc (.cells #[.slice A legs.length c, .slice A' off.length c', .int .i64 ch] 31)).alloc (.cells #[.int .i64 leg, .int .i64 day] 45) := ⟨_, rfl⟩
  try rw [← hW]
  have x0 : W.cell? ⟨w.heap.size, 0, none⟩ = some (.slice A legs.length c) := by rw [hW]; simp [go_sem]
  have x1 : W.cell? ⟨w.heap.size, 1, none⟩ = some (.slice A' off.length c') := by rw [hW]; simp [go_sem]
  have x2 : W.cell? ⟨w.heap.size, 2, none⟩ = some (.int .i64 ch) := by rw [hW]; simp [go_sem]
  have y0 : W.cell? ⟨w.heap.size + 1, 0, none⟩ = some (.int .i64 leg) := by rw [hW]; simp [go_sem]
  have y1 : W.cell? ⟨w.heap.size + 1, 1, none⟩ = some (.int .i64 day) := by rw [hW]; simp [go_sem]
  have HW : Below w.heap.size w W := by rw [hW]; go_grown
  replace sl := sl.keep HW (Nat.le_refl _)
  replace so := so.keep HW (Nat.le_refl _)
  clear hW
  refine (isTripI legs off ch leg day _ _ _ hok hleg hday sl so).mono ?_
  rintro e w1 ⟨rfl, b1⟩
  have B1 := chain HW b1
  replace x0 := cell_keep b1 x0
  replace x1 := cell_keep b1 x1
  replace x2 := cell_keep b1 x2
  replace y0 := cell_keep b1 y0
  replace y1 := cell_keep b1 y1
  replace sl := sl.keep b1 (Nat.le_refl _)
  replace so := so.keep b1 (Nat.le_refl _)
  cases hr : runsOnB legs off ch leg day
  · go_wp2_with fail
    go_ret
    exact ⟨by rw [hr]; rfl, B1⟩
  · obtain ⟨hnet, n, rfl, hlt, hd1, hd2⟩ := runsOn_some hr
    go_wp2_with fail
    refine (startsI legs off ch day n _ _ _ hnet hlt hd1 hd2 sl so).mono ?_
    rintro e w2 ⟨rfl, b2⟩
    have B2 := chain B1 b2
    go_wp2_with fail
    go_ret
    exact ⟨by rw [hr]; rfl, B2⟩
set_option maxHeartbeats 1600000 in
theorem startsS (legs : List LegD) (off : List Int) (ch day : Int) (n : Nat) (l o : Value) (w : World) (hnet : netB legs off ch = true) (hlt : n < legs.length) (hd1 : 0 ≤ day) (hd2 : day ≤ 60) (sl : SliceOf w 6 LegD.vals l legs) (so : SliceOf w 1 vI o off) :
    Calls Try.prog 24 #[.agg #[l, o, .int .i64 ch], .agg #[.int .i64 (n : Int), .int .i64 day]] w fun e w' => e = .returned (.int .i64 (startT legs (n : Int) day)) ∧ Below w.heap.size w w' := by
  obtain ⟨A, c, rfl, -, -⟩ := sl.form
  obtain ⟨A', c', rfl, -, -⟩ := so.form
  have hcm : c ≤ maxLen := by obtain ⟨_, c0, e0, h1, h2⟩ := sl.form; injection e0 with e1 e2 e3; subst e3; exact h2
  unfold maxLen at hcm
  obtain ⟨b_, off_, x, rfl, hb_, hx, hc⟩ := sl.cells hlt
  have hs := netB_start hnet hx.out
  obtain ⟨f, t, a, b, d, r⟩ := x
  simp only at hs
  obtain ⟨⟨hs1, hs2⟩, hs3, hs4⟩ := hs
  have hst : startT legs (n : Int) day = day * 1440 + a := by unfold startT; rw [Int.toNat_natCast, hx.out]
  have hen : endT legs (n : Int) day = day * 1440 + a + b := by unfold endT; rw [hst, Int.toNat_natCast, hx.out]
  have HST := Lib.hid hst
  have HEN := Lib.hid hen
  have c2 : w.cell? ⟨b_, off_ + n * 6 + 2, none⟩ = some (.int .i64 a) := hc 2 _ rfl
  have c3 : w.cell? ⟨b_, off_ + n * 6 + 3, none⟩ = some (.int .i64 b) := hc 3 _ rfl
  have hn0 : (0 : Int) ≤ (n : Int) := by omega
  have hn1 : (n : Int) < (legs.length : Int) := by omega
  have wr1 : IntKind.i64.wrap (day * 1440) = day * 1440 := IntWalk.i64_in _ (by omega)
  have wr2 : IntKind.i64.wrap (day * 1440 + a) = day * 1440 + a := IntWalk.i64_in _ (by omega)
  have wr3 : IntKind.i64.wrap (day * 1440 + a + b) = day * 1440 + a + b := IntWalk.i64_in _ (by omega)
  clear hc hst hen
  go_enter Try.func24, Try.ntmps24
  go_wp2_with fail
  obtain ⟨W, hW⟩ : ∃ W, W = (w.alloc (.cells #[.slice (some ⟨b_, off_, none⟩) legs.length c, .slice A' off.length c', .int .i64 ch] 31)).alloc (.cells #[.int .i64 (n : Int), .int .i64 day] 45) := ⟨_, rfl⟩
  try rw [← hW]
  have x0 : W.cell? ⟨w.heap.size, 0, none⟩ = some (.slice (some ⟨b_, off_, none⟩) legs.length c) := by rw [hW]; simp [go_sem]
  have x1 : W.cell? ⟨w.heap.size, 1, none⟩ = some (.slice A' off.length c') := by rw [hW]; simp [go_sem]
  have x2 : W.cell? ⟨w.heap.size, 2, none⟩ = some (.int .i64 ch) := by rw [hW]; simp [go_sem]
  have y0 : W.cell? ⟨w.heap.size + 1, 0, none⟩ = some (.int .i64 (n : Int)) := by rw [hW]; simp [go_sem]
  have y1 : W.cell? ⟨w.heap.size + 1, 1, none⟩ = some (.int .i64 day) := by rw [hW]; simp [go_sem]
  have HW : Below w.heap.size w W := by rw [hW]; go_grown
  replace c2 := HW.cell (p := ⟨b_, _, none⟩) hb_ |>.trans c2
  replace c3 := HW.cell (p := ⟨b_, _, none⟩) hb_ |>.trans c3
  replace sl := sl.keep HW (Nat.le_refl _)
  replace so := so.keep HW (Nat.le_refl _)
  have hbW : b_ < W.heap.size := Nat.lt_of_lt_of_le hb_ HW.size
  clear hW hb_
  go_wp2
  go_quiet (fail)
  go_wp2
  go_ret
  exact ⟨by rw [HST.out]; rfl, below_drewN HW _⟩
end Go.Proofs.Ytdmeinfdldiegaa
