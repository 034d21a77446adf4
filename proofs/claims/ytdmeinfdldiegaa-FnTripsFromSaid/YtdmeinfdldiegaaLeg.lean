/- What IsLeg answers, and how the laws copy and measure a leg. No condition. -/
import Derived.Test.YtdmeinfdldiegaaPlace
import Derived.Test.YtdmeinfdldiegaaArgs
namespace Go.Proofs.Ytdmeinfdldiegaa
open Go.RowKit Go.PlainAid
set_option maxRecDepth 100000

def legB (f t : ByteArray) (a b c d : Int) : Bool := plc f && plc t && !(f.toList == t.toList) && rng a 0 1439 && rng b 1 4320 && rng c 1 127 && rng d 0 1000000
set_option maxHeartbeats 1600000 in
theorem isLegI (f t : ByteArray) (a b c d : Int) (w : World) (hf : f.size ≤ maxLen) (ht : t.size ≤ maxLen) :
    Calls Try.prog 52 #[.agg #[.string f, .string t, .int .i64 a, .int .i64 b, .int .i64 c, .int .i64 d]] w fun e w' => e = .returned (.bool (legB f t a b c d)) ∧ Below w.heap.size w w' := by
  cases h1 : plc f
  · have H : Hid (legB f t a b c d = false) := Lib.hid (by unfold legB; rw [h1]; simp)
    go_enter Try.func52, Try.ntmps52
    go_wp2_with (first | (go_at_call 53; refine (within_any _ _ _ _).mono ?_; rintro e w' ⟨rfl, rfl⟩) | (go_at_call 64; refine (isPlaceI _ _ (by assumption)).mono ?_; rintro e w' ⟨rfl, rfl⟩))
    go_ret
    exact ⟨ret_bool H.out.symm, by go_grown⟩
  cases h2 : plc t
  · have H : Hid (legB f t a b c d = false) := Lib.hid (by unfold legB; rw [h2]; simp)
    go_enter Try.func52, Try.ntmps52
    go_wp2_with (first | (go_at_call 53; refine (within_any _ _ _ _).mono ?_; rintro e w' ⟨rfl, rfl⟩) | (go_at_call 64; refine (isPlaceI _ _ (by assumption)).mono ?_; rintro e w' ⟨rfl, rfl⟩))
    go_ret
    exact ⟨ret_bool H.out.symm, by go_grown⟩
  cases h3 : (f.toList == t.toList)
  · have h3' : (f.toList != t.toList) = true := by rw [bne, h3]; rfl
    cases h4 : rng a 0 1439
    · have H : Hid (legB f t a b c d = false) := Lib.hid (by unfold legB; rw [h4]; simp)
      go_enter Try.func52, Try.ntmps52
      go_wp2_with (first | (go_at_call 53; refine (within_any _ _ _ _).mono ?_; rintro e w' ⟨rfl, rfl⟩) | (go_at_call 64; refine (isPlaceI _ _ (by assumption)).mono ?_; rintro e w' ⟨rfl, rfl⟩))
      go_ret
      exact ⟨ret_bool H.out.symm, by go_grown⟩
    cases h5 : rng b 1 4320
    · have H : Hid (legB f t a b c d = false) := Lib.hid (by unfold legB; rw [h5]; simp)
      go_enter Try.func52, Try.ntmps52
      go_wp2_with (first | (go_at_call 53; refine (within_any _ _ _ _).mono ?_; rintro e w' ⟨rfl, rfl⟩) | (go_at_call 64; refine (isPlaceI _ _ (by assumption)).mono ?_; rintro e w' ⟨rfl, rfl⟩))
      go_ret
      exact ⟨ret_bool H.out.symm, by go_grown⟩
    cases h6 : rng c 1 127
    · have H : Hid (legB f t a b c d = false) := Lib.hid (by unfold legB; rw [h6]; simp)
      go_enter Try.func52, Try.ntmps52
      go_wp2_with (first | (go_at_call 53; refine (within_any _ _ _ _).mono ?_; rintro e w' ⟨rfl, rfl⟩) | (go_at_call 64; refine (isPlaceI _ _ (by assumption)).mono ?_; rintro e w' ⟨rfl, rfl⟩))
      go_ret
      exact ⟨ret_bool H.out.symm, by go_grown⟩
    have H : Hid (legB f t a b c d = rng d 0 1000000) := Lib.hid (by unfold legB; rw [h1, h2, h3, h4, h5, h6]; rfl)
    go_enter Try.func52, Try.ntmps52
    go_wp2_with (first | (go_at_call 53; refine (within_any _ _ _ _).mono ?_; rintro e w' ⟨rfl, rfl⟩) | (go_at_call 64; refine (isPlaceI _ _ (by assumption)).mono ?_; rintro e w' ⟨rfl, rfl⟩))
    go_ret
    exact ⟨ret_bool H.out.symm, by go_grown⟩
  · have h3' : (f.toList != t.toList) = false := by rw [bne, h3]; rfl
    have H : Hid (legB f t a b c d = false) := Lib.hid (by unfold legB; rw [h3]; simp)
    go_enter Try.func52, Try.ntmps52
    go_wp2_with (first | (go_at_call 53; refine (within_any _ _ _ _).mono ?_; rintro e w' ⟨rfl, rfl⟩) | (go_at_call 64; refine (isPlaceI _ _ (by assumption)).mono ?_; rintro e w' ⟨rfl, rfl⟩))
    go_ret
    exact ⟨ret_bool H.out.symm, by go_grown⟩
set_option maxHeartbeats 1600000 in
theorem isLegS (f t : ByteArray) (a b c d : Int) (w : World) (hf : f.size ≤ maxLen) (ht : t.size ≤ maxLen) :
    Calls Try.prog 48 #[.agg #[.string f, .string t, .int .i64 a, .int .i64 b, .int .i64 c, .int .i64 d]] w fun e w' => e = .returned (.bool (legB f t a b c d)) ∧ Below w.heap.size w w' := by
  cases h1 : plc f
  · have H : Hid (legB f t a b c d = false) := Lib.hid (by unfold legB; rw [h1]; simp)
    go_enter Try.func48, Try.ntmps48
    go_wp2_with (first | (go_at_call 49; refine (l1In_any _ _ _ _).mono ?_; rintro e w' ⟨rfl, rfl⟩) | (go_at_call 63; refine (isPlaceS _ _ (by assumption)).mono ?_; rintro e w' ⟨rfl, rfl⟩))
    go_ret
    exact ⟨ret_bool H.out.symm, by go_grown⟩
  cases h2 : plc t
  · have H : Hid (legB f t a b c d = false) := Lib.hid (by unfold legB; rw [h2]; simp)
    go_enter Try.func48, Try.ntmps48
    go_wp2_with (first | (go_at_call 49; refine (l1In_any _ _ _ _).mono ?_; rintro e w' ⟨rfl, rfl⟩) | (go_at_call 63; refine (isPlaceS _ _ (by assumption)).mono ?_; rintro e w' ⟨rfl, rfl⟩))
    go_ret
    exact ⟨ret_bool H.out.symm, by go_grown⟩
  cases h3 : (f.toList == t.toList)
  · have h3' : (f.toList != t.toList) = true := by rw [bne, h3]; rfl
    cases h4 : rng a 0 1439
    · have H : Hid (legB f t a b c d = false) := Lib.hid (by unfold legB; rw [h4]; simp)
      go_enter Try.func48, Try.ntmps48
      go_wp2_with (first | (go_at_call 49; refine (l1In_any _ _ _ _).mono ?_; rintro e w' ⟨rfl, rfl⟩) | (go_at_call 63; refine (isPlaceS _ _ (by assumption)).mono ?_; rintro e w' ⟨rfl, rfl⟩))
      go_ret
      exact ⟨ret_bool H.out.symm, by go_grown⟩
    cases h5 : rng b 1 4320
    · have H : Hid (legB f t a b c d = false) := Lib.hid (by unfold legB; rw [h5]; simp)
      go_enter Try.func48, Try.ntmps48
      go_wp2_with (first | (go_at_call 49; refine (l1In_any _ _ _ _).mono ?_; rintro e w' ⟨rfl, rfl⟩) | (go_at_call 63; refine (isPlaceS _ _ (by assumption)).mono ?_; rintro e w' ⟨rfl, rfl⟩))
      go_ret
      exact ⟨ret_bool H.out.symm, by go_grown⟩
    cases h6 : rng c 1 127
    · have H : Hid (legB f t a b c d = false) := Lib.hid (by unfold legB; rw [h6]; simp)
      go_enter Try.func48, Try.ntmps48
      go_wp2_with (first | (go_at_call 49; refine (l1In_any _ _ _ _).mono ?_; rintro e w' ⟨rfl, rfl⟩) | (go_at_call 63; refine (isPlaceS _ _ (by assumption)).mono ?_; rintro e w' ⟨rfl, rfl⟩))
      go_ret
      exact ⟨ret_bool H.out.symm, by go_grown⟩
    have H : Hid (legB f t a b c d = rng d 0 1000000) := Lib.hid (by unfold legB; rw [h1, h2, h3, h4, h5, h6]; rfl)
    go_enter Try.func48, Try.ntmps48
    go_wp2_with (first | (go_at_call 49; refine (l1In_any _ _ _ _).mono ?_; rintro e w' ⟨rfl, rfl⟩) | (go_at_call 63; refine (isPlaceS _ _ (by assumption)).mono ?_; rintro e w' ⟨rfl, rfl⟩))
    go_ret
    exact ⟨ret_bool H.out.symm, by go_grown⟩
  · have h3' : (f.toList != t.toList) = false := by rw [bne, h3]; rfl
    have H : Hid (legB f t a b c d = false) := Lib.hid (by unfold legB; rw [h3]; simp)
    go_enter Try.func48, Try.ntmps48
    go_wp2_with (first | (go_at_call 49; refine (l1In_any _ _ _ _).mono ?_; rintro e w' ⟨rfl, rfl⟩) | (go_at_call 63; refine (isPlaceS _ _ (by assumption)).mono ?_; rintro e w' ⟨rfl, rfl⟩))
    go_ret
    exact ⟨ret_bool H.out.symm, by go_grown⟩
set_option maxHeartbeats 800000 in
theorem toLeg_any (f t : ByteArray) (a b c d : Int) (w : World) :
    Calls Try.prog 51 #[.agg #[.string f, .string t, .int .i64 a, .int .i64 b, .int .i64 c, .int .i64 d]] w fun e w' => e = .returned (.agg #[.string f, .string t, .int .i64 a, .int .i64 b, .int .i64 c, .int .i64 d]) ∧ Below w.heap.size w w' := by
  go_enter Try.func51, Try.ntmps51
  go_wp2
  go_returns
  exact ⟨rfl, by go_grown⟩
set_option maxHeartbeats 800000 in
theorem szLeg_any (f t : ByteArray) (a b c d left : Int) (w : World) (hl : 0 ≤ left) (hl2 : left ≤ 1048576) (hf : f.size ≤ maxLen) (ht : t.size ≤ maxLen) :
    Calls Try.prog 47 #[.agg #[.string f, .string t, .int .i64 a, .int .i64 b, .int .i64 c, .int .i64 d], .int .i64 left] w (SzPost (f.size + t.size) left w) := by
  unfold maxLen at hf ht
  by_cases h : left < f.size
  · go_enter Try.func47, Try.ntmps47
    go_wp2
    go_ret
    exact ⟨_, rfl, by omega, by omega, by omega, by go_grown⟩
  · by_cases h2 : left - f.size < t.size
    · go_enter Try.func47, Try.ntmps47
      go_wp2
      go_ret
      exact ⟨_, rfl, by omega, by omega, by omega, by go_grown⟩
    · go_enter Try.func47, Try.ntmps47
      go_wp2
      go_ret
      exact ⟨_, rfl, by omega, by omega, by omega, by go_grown⟩
end Go.Proofs.Ytdmeinfdldiegaa
