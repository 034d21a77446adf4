/- What times are written as: the program's and the reference's alike. No condition. -/
import Derived.Test.YtemlgfbfomkdaaaDoorFmt
import Derived.Test.YtemlgfbfomkdaaaDoorPlace
namespace Go.Proofs.YtemlgfbfomkdaaaDoor
open Go.RowKit Go.PlainAid
open Go.Lib (itoa decDigits decDigits_two)
set_option maxRecDepth 100000
set_option linter.unusedVariables false
/-- hh:mm of a minute of a day; day and clock of a time. -/
def clockL (m : Int) : List UInt8 := padL (m / 60) 2 ++ [58] ++ padL (m % 60) 2
def timeL (t : Int) : List UInt8 := itoa (t / 1440) ++ [32] ++ clockL (t % 1440)
def timeOf (t : Int) : List UInt8 := if 0 ≤ t ∧ t ≤ 100000 then timeL t else []
theorem timeOf_yes {t : Int} (h : rng t 0 100000 = true) : timeOf t = timeL t := if_pos (rng_iff.1 h)
theorem timeOf_no {t : Int} (h : rng t 0 100000 = false) : timeOf t = [] := if_neg (fun k => by rw [rng_iff.2 k] at h; cases h)
theorem clock_len {m : Int} (h0 : 0 ≤ m) (h1 : m ≤ 1439) : (clockL m).length = 5 := by
  unfold clockL
  rw [List.length_append, List.length_append, pad_len (by omega) (k := 1) (by omega), pad_len (by omega) (k := 1) (by omega)]; rfl
set_option maxHeartbeats 800000 in
theorem clockI (m : Int) (w : World) (h0 : 0 ≤ m) (h1 : m ≤ 1439) (ht : Tabs w) : Calls Tryd.prog 29 #[.int .i64 m] w (SPost (clockL m) w) := by
  have l1 := pad_len (n := m / 60) (by omega) (k := 1) (by omega)
  have l2 := pad_len (n := m % 60) (by omega) (k := 1) (by omega)
  have L1 := Lib.hid l1; clear l1
  have L2 := Lib.hid l2; clear l2
  go_enter Tryd.func29, Tryd.ntmps29
  go_wp2_with fail
  refine (padI (m / 60) 2 _ (by unfold okI; omega) (by omega) (ht)).mono ?_
  rintro e w1 ⟨r, rfl, Hr, hr, b1⟩
  have zr : r.size ≤ 2 := by rw [hr, L1.out]; omega
  have HR := Lib.hid hr; clear hr
  go_wp2_with fail
  refine (padI (m % 60) 2 _ (by unfold okI; omega) (by omega) (ht.keep b1)).mono ?_
  rintro e w2 ⟨q, rfl, Hq, hq, b2⟩
  have zq : q.size ≤ 2 := by rw [hq, L2.out]; omega
  have HQ := Lib.hid hq; clear hq
  have k1 := fun wx : World => run_string_add_sum (P := Tryd.prog) wx (r ++ ⟨#[58]⟩) q (by rw [ByteArray.size_append]; show r.size + 1 + _ ≤ _; omega)
  go_wp2_with fail
  go_ret
  exact SPost.of (by rw [ByteArray.data_append, Array.toList_append, ByteArray.data_append, Array.toList_append, Hr.out, Hq.out]; rfl) (chain b1 b2)
set_option maxHeartbeats 800000 in
theorem timeI (t : Int) (w : World) (ho : okI t) (ht : Tabs w) : Calls Tryd.prog 10 #[.int .i64 t] w (SPost (timeOf t) w) := by
  cases hr : rng t 0 100000
  · have HN := Lib.hid (timeOf_no hr)
    go_enter Tryd.func10, Tryd.ntmps10
    go_wp2_with ((go_at_call 27; refine (within_any _ _ _ _).mono ?_; rintro e w' ⟨rfl, rfl⟩))
    go_ret
    exact SPost.of HN.out.symm (Below.refl _ _)
  · obtain ⟨h0, h1⟩ := rng_iff.1 hr
    have HY := Lib.hid (timeOf_yes hr)
    have l1 : (itoa (t / 1440)).length ≤ 21 := Lib.itoa_length_le _ (by omega) (by omega)
    have l2 := clock_len (m := t % 1440) (by omega) (by omega)
    have L2 := Lib.hid l2; clear l2
    go_enter Tryd.func10, Tryd.ntmps10
    go_wp2_with ((go_at_call 27; refine (within_any _ _ _ _).mono ?_; rintro e w' ⟨rfl, rfl⟩))
    refine (fmtI (t / 1440) _ (by unfold okI; omega) (ht)).mono ?_
    rintro e w1 ⟨r, rfl, Hr, hr', b1⟩
    have zr : r.size ≤ 21 := by omega
    have HR := Lib.hid hr'; clear hr'
    go_wp2_with fail
    refine (clockI (t % 1440) _ (by omega) (by omega) (ht.keep b1)).mono ?_
    rintro e w2 ⟨q, rfl, Hq, hq, b2⟩
    have zq : q.size ≤ 5 := by rw [hq, L2.out]; omega
    have HQ := Lib.hid hq; clear hq
    have k1 := fun wx : World => run_string_add_sum (P := Tryd.prog) wx (r ++ ⟨#[32]⟩) q (by rw [ByteArray.size_append]; show r.size + 1 + _ ≤ _; omega)
    go_wp2_with fail
    go_ret
    exact SPost.of (by rw [ByteArray.data_append, Array.toList_append, ByteArray.data_append, Array.toList_append, Hr.out, Hq.out, HY.out]; rfl) (chain b1 b2)
set_option maxHeartbeats 800000 in
theorem clockS (m : Int) (w : World) (h0 : 0 ≤ m) (h1 : m ≤ 1439) (ht : Tabs w) : Calls Tryd.prog 36 #[.int .i64 m] w (SPost (clockL m) w) := by
  have l1 := pad_len (n := m / 60) (by omega) (k := 1) (by omega)
  have l2 := pad_len (n := m % 60) (by omega) (k := 1) (by omega)
  have L1 := Lib.hid l1; clear l1
  have L2 := Lib.hid l2; clear l2
  go_enter Tryd.func36, Tryd.ntmps36
  go_wp2_with fail
  refine (padS (m / 60) 2 _ (by unfold okI; omega) (by omega)).mono ?_
  rintro e w1 ⟨r, rfl, Hr, hr, b1⟩
  have zr : r.size ≤ 2 := by rw [hr, L1.out]; omega
  have HR := Lib.hid hr; clear hr
  go_wp2_with fail
  refine (padS (m % 60) 2 _ (by unfold okI; omega) (by omega)).mono ?_
  rintro e w2 ⟨q, rfl, Hq, hq, b2⟩
  have zq : q.size ≤ 2 := by rw [hq, L2.out]; omega
  have HQ := Lib.hid hq; clear hq
  have k1 := fun wx : World => run_string_add_sum (P := Tryd.prog) wx (r ++ ⟨#[58]⟩) q (by rw [ByteArray.size_append]; show r.size + 1 + _ ≤ _; omega)
  go_wp2_with fail
  go_ret
  exact SPost.of (by rw [ByteArray.data_append, Array.toList_append, ByteArray.data_append, Array.toList_append, Hr.out, Hq.out]; rfl) (chain b1 b2)
end Go.Proofs.YtemlgfbfomkdaaaDoor
