/- What IsLabel answers, and how the laws copy and measure a label. No condition. -/
import Derived.Test.YteolobffmldfhaaPlace
import Derived.Test.YteolobffmldfhaaArgs
namespace Go.Proofs.Yteolobffmldfhaa
open Go.RowKit Go.PlainAid

def labB (a b : Int) (s : ByteArray) : Bool := rng a 1 3 && rng b 0 999999999 && plc s

set_option maxHeartbeats 400000 in
theorem isLabelI (a b : Int) (s : ByteArray) (w : World) (hs : s.size ≤ maxLen) :
    Calls Try.prog 64 #[.agg #[.int .i64 a, .int .i64 b, .string s]] w fun e w' => e = .returned (.bool (labB a b s)) ∧ Below w.heap.size w w' := by
  cases h1 : rng a 1 3
  · have H : Hid (labB a b s = false) := Lib.hid (by unfold labB; rw [h1]; rfl)
    go_enter Try.func64, Try.ntmps64
    go_wp2_with (go_at_call 66; refine (within_any _ _ _ _).mono ?_; rintro e w' ⟨rfl, rfl⟩)
    go_ret
    exact ⟨ret_bool H.out.symm, by go_grown⟩
  · cases h2 : rng b 0 999999999
    · have H : Hid (labB a b s = false) := Lib.hid (by unfold labB; rw [h2]; simp)
      go_enter Try.func64, Try.ntmps64
      go_wp2_with (go_at_call 66; refine (within_any _ _ _ _).mono ?_; rintro e w' ⟨rfl, rfl⟩)
      go_ret
      exact ⟨ret_bool H.out.symm, by go_grown⟩
    · have H : Hid (labB a b s = plc s) := Lib.hid (by unfold labB; rw [h1, h2]; rfl)
      go_enter Try.func64, Try.ntmps64
      go_wp2_with (first | (go_at_call 66; refine (within_any _ _ _ _).mono ?_; rintro e w' ⟨rfl, rfl⟩) | (go_at_call 65; refine (isPlaceI _ _ hs).mono ?_; rintro e w' ⟨rfl, rfl⟩))
      go_ret
      exact ⟨ret_bool H.out.symm, by go_grown⟩
set_option maxHeartbeats 400000 in
theorem isLabelS (a b : Int) (s : ByteArray) (w : World) (hs : s.size ≤ maxLen) :
    Calls Try.prog 60 #[.agg #[.int .i64 a, .int .i64 b, .string s]] w fun e w' => e = .returned (.bool (labB a b s)) ∧ Below w.heap.size w w' := by
  cases h1 : rng a 1 3
  · have H : Hid (labB a b s = false) := Lib.hid (by unfold labB; rw [h1]; rfl)
    go_enter Try.func60, Try.ntmps60
    go_wp2_with (go_at_call 62; refine (l1In_any _ _ _ _).mono ?_; rintro e w' ⟨rfl, rfl⟩)
    go_ret
    exact ⟨ret_bool H.out.symm, by go_grown⟩
  · cases h2 : rng b 0 999999999
    · have H : Hid (labB a b s = false) := Lib.hid (by unfold labB; rw [h2]; simp)
      go_enter Try.func60, Try.ntmps60
      go_wp2_with (go_at_call 62; refine (l1In_any _ _ _ _).mono ?_; rintro e w' ⟨rfl, rfl⟩)
      go_ret
      exact ⟨ret_bool H.out.symm, by go_grown⟩
    · have H : Hid (labB a b s = plc s) := Lib.hid (by unfold labB; rw [h1, h2]; rfl)
      go_enter Try.func60, Try.ntmps60
      go_wp2_with (first | (go_at_call 62; refine (l1In_any _ _ _ _).mono ?_; rintro e w' ⟨rfl, rfl⟩) | (go_at_call 61; refine (isPlaceS _ _ hs).mono ?_; rintro e w' ⟨rfl, rfl⟩))
      go_ret
      exact ⟨ret_bool H.out.symm, by go_grown⟩
theorem toLabel_any (a b : Int) (s : ByteArray) (w : World) :
    Calls Try.prog 63 #[.agg #[.int .i64 a, .int .i64 b, .string s]] w fun e w' => e = .returned (.agg #[.int .i64 a, .int .i64 b, .string s]) ∧ Below w.heap.size w w' := by
  go_enter Try.func63, Try.ntmps63
  go_wp2
  go_returns
  exact ⟨rfl, by go_grown⟩
theorem szLabel_any (a b left : Int) (s : ByteArray) (w : World) (hl : 0 ≤ left) (hl2 : left ≤ 1048576) (hs : s.size ≤ maxLen) :
    Calls Try.prog 58 #[.agg #[.int .i64 a, .int .i64 b, .string s], .int .i64 left] w (SzPost s.size left w) := by
  unfold maxLen at hs
  by_cases h : left < s.size
  · go_enter Try.func58, Try.ntmps58
    go_wp2
    go_ret
    exact ⟨_, rfl, by omega, by omega, by omega, by go_grown⟩
  · go_enter Try.func58, Try.ntmps58
    go_wp2
    go_ret
    exact ⟨_, rfl, by omega, by omega, by omega, by go_grown⟩
end Go.Proofs.Yteolobffmldfhaa
