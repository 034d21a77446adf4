/- Whether a leg runs on a day: the program's runs and the reference's l3Runs alike, over a network whose legs are in order. No condition. -/
import Derived.Test.YtdmeinfdldiegaaNet
import Derived.Test.YtdmeinfdldiegaaBits
import Derived.Laws.BitsAllLaws
import Derived.Laws.BitsLemmas
namespace Go.Proofs.Ytdmeinfdldiegaa
open Go.RowKit Go.PlainAid
set_option maxRecDepth 100000
set_option linter.unusedVariables false
/-- The bit of a day in a leg's days. -/
def dbit (d day : Int) : Int := (d / 2 ^ (day % 7).toNat) % 2
theorem dbit_eq {d day : Int} (h1 : 0 ≤ d) (h2 : d ≤ 127) : bits .and .i64 (d / 2 ^ (day % 7).toNat) 1 = dbit d day := by
  obtain ⟨n, rfl⟩ := Int.eq_ofNat_of_zero_le h1
  unfold dbit
  have e : ((n : Int) / 2 ^ (day % 7).toNat) = ((n / 2 ^ (day % 7).toNat : Nat) : Int) := by simp
  have hlt : n / 2 ^ (day % 7).toNat ≤ n := Nat.div_le_self _ _
  rw [e]
  have := i64_and_nat (n / 2 ^ (day % 7).toNat) 1 (by omega) (by omega)
  rw [Nat.and_one_is_mod] at this
  have e2 : ((1 : Nat) : Int) = 1 := rfl
  rw [e2] at this
  rw [this]
  simp
theorem dbit_01 (d day : Int) : dbit d day = 0 ∨ dbit d day = 1 := by unfold dbit; omega
def hasB (xs : List Int) (d : Int) : Bool := xs.contains d
/-- Leg number 'leg' runs on the day. -/
def runsB (legs : List LegD) (off : List Int) (leg day : Int) : Bool :=
  decide (0 ≤ leg) && rng day 0 60 && (match legs[leg.toNat]? with | some x => decide (dbit x.days day = 1) | none => false) && !hasB off day
theorem runsB_legs {legs : List LegD} {off : List Int} {leg day : Int} (h : leg < 0 ∨ (legs.length : Int) ≤ leg) : runsB legs off leg day = false := by
  unfold runsB
  rcases h with h | h
  · rw [decide_eq_false (by omega)]; rfl
  · rw [List.getElem?_eq_none (by omega)]; simp
theorem runsB_day {legs : List LegD} {off : List Int} {leg day : Int} (h : rng day 0 60 = false) : runsB legs off leg day = false := by
  unfold runsB; rw [h]; simp
theorem runsB_in {legs : List LegD} {off : List Int} {n : Nat} {day : Int} {x : LegD} (hx : legs[n]? = some x) (hd : rng day 0 60 = true) : runsB legs off n day = (decide (dbit x.days day = 1) && !hasB off day) := by
  unfold runsB; rw [hd, decide_eq_true (by omega : (0 : Int) ≤ (n : Int)), Int.toNat_natCast, hx]; simp
theorem netB_days {legs : List LegD} {off : List Int} {ch : Int} (h : netB legs off ch = true) {n : Nat} {x : LegD} (hx : legs[n]? = some x) : 1 ≤ x.days ∧ x.days ≤ 127 := by
  unfold netB at h
  simp only [Bool.and_eq_true] at h
  have := (List.all_eq_true.1 h.1.1.1.1) x (mem_of hx)
  unfold legOk legB at this
  simp only [Bool.and_eq_true] at this
  exact rng_iff.1 this.1.2
theorem netB_start {legs : List LegD} {off : List Int} {ch : Int} (h : netB legs off ch = true) {n : Nat} {x : LegD} (hx : legs[n]? = some x) : (0 ≤ x.start ∧ x.start ≤ 1439) ∧ (1 ≤ x.takes ∧ x.takes ≤ 4320) := by
  unfold netB at h
  simp only [Bool.and_eq_true] at h
  have := (List.all_eq_true.1 h.1.1.1.1) x (mem_of hx)
  unfold legOk legB at this
  simp only [Bool.and_eq_true] at this
  exact ⟨rng_iff.1 this.1.1.1.2, rng_iff.1 this.1.1.2⟩
theorem contains_hit {xs : List Int} {k : Nat} {x : Int} (h : xs[k]? = some x) : hasB xs x = true := by
  unfold hasB; rw [List.contains_iff_mem]; exact List.mem_of_getElem? h
theorem contains_none {xs : List Int} {d : Int} (h : ∀ (k : Nat) (x : Int), xs[k]? = some x → x ≠ d) : hasB xs d = false := by
  unfold hasB; rw [Bool.eq_false_iff, Ne, List.contains_iff_mem]
  intro hm
  obtain ⟨k, hk⟩ := List.getElem?_of_mem hm
  exact h k d hk rfl
set_option maxHeartbeats 6400000 in
theorem runsI (legs : List LegD) (off : List Int) (ch leg day : Int) (l o : Value) (w : World) (hnet : netB legs off ch = true) (hleg : okI leg) (hday : okI day) (sl : SliceOf w 6 LegD.vals l legs) (so : SliceOf w 1 vI o off) :
    Calls Try.prog 28 #[.agg #[l, o, .int .i64 ch], .int .i64 leg, .int .i64 day] w fun e w' => e = .returned (.bool (runsB legs off leg day)) ∧ Below w.heap.size w w' := by
  obtain ⟨A, c, rfl, hl, hm⟩ := sl.form
  obtain ⟨A', c', rfl, hl', hm'⟩ := so.form
  unfold maxLen at hm hm'
  unfold okI at hleg hday
  by_cases h0 : leg < 0
  · have H := Lib.hid (runsB_legs (legs := legs) (off := off) (day := day) (.inl h0))
    go_enter Try.func28, Try.ntmps28
    go_wp2_with (go_at_call 53; refine (within_any _ _ _ _).mono ?_; rintro e w' ⟨rfl, rfl⟩)
    go_ret
    exact ⟨ret_bool H.out.symm, by go_grown⟩
  by_cases h1 : (legs.length : Int) ≤ leg
  · have H := Lib.hid (runsB_legs (legs := legs) (off := off) (day := day) (.inr h1))
    go_enter Try.func28, Try.ntmps28
    go_wp2_with (go_at_call 53; refine (within_any _ _ _ _).mono ?_; rintro e w' ⟨rfl, rfl⟩)
    go_ret
    exact ⟨ret_bool H.out.symm, by go_grown⟩
  cases hr : rng day 0 60
  · have H := Lib.hid (runsB_day (legs := legs) (off := off) (leg := leg) hr)
    go_enter Try.func28, Try.ntmps28
    go_wp2_with (go_at_call 53; refine (within_any _ _ _ _).mono ?_; rintro e w' ⟨rfl, rfl⟩)
    go_ret
    exact ⟨ret_bool H.out.symm, by go_grown⟩
  obtain ⟨hd1, hd2⟩ := rng_iff.1 hr
  obtain ⟨n, rfl⟩ := Int.eq_ofNat_of_zero_le (by omega : 0 ≤ leg)
  have hlt : n < legs.length := by omega
  obtain ⟨b_, off_, x, rfl, hb_, hx, hc⟩ := sl.cells hlt
  obtain ⟨hq1, hq2⟩ := netB_days hnet hx.out
  obtain ⟨f, t, a, b, d, r⟩ := x
  simp only at hq1 hq2
  have c4 : w.cell? ⟨b_, off_ + n * 6 + 4, none⟩ = some (.int .i64 d) := hc 4 _ rfl
  have hbe := dbit_eq (day := day) (by omega : 0 ≤ d) hq2
  have H := Lib.hid (runsB_in (off := off) hx.out hr)
  clear hc
  rcases dbit_01 d day with hz | hz
  · have hbz : (bits BinOp.and IntKind.i64 (d / 2 ^ (day % 7).toNat) 1 == 0) = true := by rw [hbe, hz]; rfl
    have HZ := Lib.hid hz
    clear hbe hz
    go_enter Try.func28, Try.ntmps28
    go_wp2_with (go_at_call 53; refine (within_any _ _ _ _).mono ?_; rintro e w' ⟨rfl, rfl⟩)
    go_ret
    exact ⟨ret_bool (by rw [H.out, show dbit _ _ = 0 from HZ.out]; rfl), by go_grown⟩
  · have hbz : (bits BinOp.and IntKind.i64 (d / 2 ^ (day % 7).toNat) 1 == 0) = false := by rw [hbe, hz]; rfl
    have HZ := Lib.hid hz
    clear hbe hz
    go_enter Try.func28, Try.ntmps28
    go_wp2_with (go_at_call 53; refine (within_any _ _ _ _).mono ?_; rintro e w' ⟨rfl, rfl⟩)
    obtain ⟨W, hW⟩ : ∃ W, W = w.alloc (.cells #[.slice (some ⟨b_, off_, none⟩) legs.length c, .slice A' off.length c', .int .i64 ch] 31) := ⟨_, rfl⟩
    rw [← hW]
    have HW : Below w.heap.size w W := by rw [hW]; go_grown
    have SO := so.keep HW (Nat.le_refl _)
    clear hW so
    go_loopw [39] (fun i wr => ∃ k : Nat, k ≤ off.length ∧ i = .int .i64 k ∧ wr = W ∧ Hid (∀ (j : Nat) (x : Int), j < k → off[j]? = some x → x ≠ day)) (fun i _ => off.length - (intOf i).toNat)
    case atStart => exact ⟨0, Nat.zero_le _, rfl, rfl, fun j x hj => by omega⟩
    case round =>
      obtain ⟨k, hk, rfl, rfl, H2⟩ := hrel
      by_cases hlt' : k < off.length
      · obtain ⟨b2, off2, y, rfl, hb2, hy, hc2⟩ := at1' SO hlt'
        by_cases hyd : y = day
        · have e1 : (y == day) = true := by simp [hyd]
          have HYD := Lib.hid hyd; clear hyd
          go_wp2
          go_ret
          exact ⟨ret_bool (by rw [H.out, show hasB off day = true from by rw [← HYD.out]; exact contains_hit hy.out]; simp), HW⟩
        · have e1 : (y == day) = false := by simp [hyd]
          have HYD := Lib.hid hyd; clear hyd
          go_wp2
          go_roundw
          case rel => exact ⟨k + 1, by omega, by go_num, by first | rfl | trivial, fun j z hj hz => by
            by_cases e : j = k
            · subst e
              obtain rfl : y = z := by have := hy.out.symm.trans hz; injection this
              exact HYD.out
            · exact H2.out j z (by omega) hz⟩
          case measure => simp [intOf]; omega
      · obtain rfl : k = off.length := by omega
        go_wp2
        go_ret
        exact ⟨ret_bool (by rw [H.out, show dbit _ _ = 1 from HZ.out, contains_none (fun j z hj => H2.out j z (List.getElem?_eq_some_iff.1 hj).1 hj)]; rfl), HW⟩
set_option maxHeartbeats 800000 in
theorem has_any (xs : List Int) (d : Int) (v : Value) (w : World) (h : SliceOf w 1 vI v xs) : Calls Try.prog 50 #[v, .int .i64 d] w fun e w' => e = .returned (.bool (hasB xs d)) ∧ w = w' := by
  obtain ⟨A, c, rfl, hl, hm⟩ := h.form
  unfold maxLen at hm
  go_enter Try.func50, Try.ntmps50
  go_wp2
  go_loop [5] (fun i => ∃ k : Nat, k ≤ xs.length ∧ i = .int .i64 k ∧ Hid (∀ (j : Nat) (x : Int), j < k → xs[j]? = some x → x ≠ d)) (fun i => xs.length - (intOf i).toNat)
  case atStart => exact ⟨0, Nat.zero_le _, rfl, fun j x hj => by omega⟩
  case round =>
    obtain ⟨k, hk, rfl, H2⟩ := hrel
    by_cases hlt' : k < xs.length
    · obtain ⟨b2, off2, y, rfl, hb2, hy, hc2⟩ := at1' h hlt'
      by_cases hyd : y = d
      · have e1 : (y == d) = true := by simp [hyd]
        have HYD := Lib.hid hyd; clear hyd
        go_wp2
        go_ret
        exact ⟨ret_bool (by rw [show hasB xs d = true from by rw [← HYD.out]; exact contains_hit hy.out]), rfl⟩
      · have e1 : (y == d) = false := by simp [hyd]
        have HYD := Lib.hid hyd; clear hyd
        go_wp2
        go_round
        case rel => exact ⟨k + 1, by omega, by go_num, fun j z hj hz => by
          by_cases e : j = k
          · subst e
            obtain rfl : y = z := by have := hy.out.symm.trans hz; injection this
            exact HYD.out
          · exact H2.out j z (by omega) hz⟩
        case measure => simp [intOf]; omega
    · obtain rfl : k = xs.length := by omega
      go_wp2
      go_ret
      exact ⟨ret_bool (by rw [contains_none (fun j z hj => H2.out j z (List.getElem?_eq_some_iff.1 hj).1 hj)]), rfl⟩
set_option maxHeartbeats 6400000 in
theorem runsS (legs : List LegD) (off : List Int) (ch leg day : Int) (l o : Value) (w : World) (hnet : netB legs off ch = true) (hleg : okI leg) (hday : okI day) (sl : SliceOf w 6 LegD.vals l legs) (so : SliceOf w 1 vI o off) :
    Calls Try.prog 23 #[.agg #[l, o, .int .i64 ch], .int .i64 leg, .int .i64 day] w fun e w' => e = .returned (.bool (runsB legs off leg day)) ∧ Below w.heap.size w w' := by
  obtain ⟨A, c, rfl, hl, hm⟩ := sl.form
  obtain ⟨A', c', rfl, hl', hm'⟩ := so.form
  unfold maxLen at hm hm'
  unfold okI at hleg hday
  by_cases h0 : leg < 0 ∨ (legs.length : Int) ≤ leg
  · have H := Lib.hid (runsB_legs (legs := legs) (off := off) (day := day) h0)
    have e1 : rng leg 0 ((legs.length : Int) - 1) = false := rng_false (by omega)
    clear h0
    go_enter Try.func23, Try.ntmps23
    go_wp2_with (go_at_call 49; refine (l1In_any _ _ _ _).mono ?_; rintro e w' ⟨rfl, rfl⟩)
    go_ret
    exact ⟨ret_bool H.out.symm, by go_grown⟩
  have e1 : rng leg 0 ((legs.length : Int) - 1) = true := rng_true (by omega) (by omega)
  have hge : 0 ≤ leg := by omega
  have hlt' : leg < (legs.length : Int) := by omega
  clear h0
  cases hr : rng day 0 60
  · have H := Lib.hid (runsB_day (legs := legs) (off := off) (leg := leg) hr)
    go_enter Try.func23, Try.ntmps23
    go_wp2_with (go_at_call 49; refine (l1In_any _ _ _ _).mono ?_; rintro e w' ⟨rfl, rfl⟩)
    go_ret
    exact ⟨ret_bool H.out.symm, by go_grown⟩
  obtain ⟨hd1, hd2⟩ := rng_iff.1 hr
  obtain ⟨n, rfl⟩ := Int.eq_ofNat_of_zero_le hge
  have hlt : n < legs.length := by omega
  obtain ⟨b_, off_, x, rfl, hb_, hx, hc⟩ := sl.cells hlt
  obtain ⟨hq1, hq2⟩ := netB_days hnet hx.out
  obtain ⟨f, t, a, b, d, r⟩ := x
  simp only at hq1 hq2
  have c4 : w.cell? ⟨b_, off_ + n * 6 + 4, none⟩ = some (.int .i64 d) := hc 4 _ rfl
  have hbe := dbit_eq (day := day) (by omega : 0 ≤ d) hq2
  have H := Lib.hid (runsB_in (off := off) hx.out hr)
  clear hc
  rcases dbit_01 d day with hz | hz
  · have hbz : (bits BinOp.and IntKind.i64 (d / 2 ^ (day % 7).toNat) 1 == 1) = false := by rw [hbe, hz]; rfl
    have HZ := Lib.hid hz
    clear hbe hz
    go_enter Try.func23, Try.ntmps23
    go_wp2_with (go_at_call 49; refine (l1In_any _ _ _ _).mono ?_; rintro e w' ⟨rfl, rfl⟩)
    go_ret
    exact ⟨ret_bool (by rw [H.out, show dbit _ _ = 0 from HZ.out]; rfl), by go_grown⟩
  · have hbz : (bits BinOp.and IntKind.i64 (d / 2 ^ (day % 7).toNat) 1 == 1) = true := by rw [hbe, hz]; rfl
    have HZ := Lib.hid hz
    clear hbe hz
    have SO := so.keep (show Below w.heap.size w (w.alloc (.cells #[.slice (some ⟨b_, off_, none⟩) legs.length c, .slice A' off.length c', .int .i64 ch] 31)) by go_grown) (Nat.le_refl _)
    go_enter Try.func23, Try.ntmps23
    go_wp2_with (first | (go_at_call 49; refine (l1In_any _ _ _ _).mono ?_; rintro e w' ⟨rfl, rfl⟩) | (go_at_call 50; refine (has_any off day _ _ SO).mono ?_; rintro e w' ⟨rfl, rfl⟩))
    go_ret
    exact ⟨ret_bool (by rw [H.out, show dbit _ _ = 1 from HZ.out]; simp), by go_grown⟩
end Go.Proofs.Ytdmeinfdldiegaa
