/- What IsLabel answers, and how the laws copy and measure a label. No condition. -/
import Derived.Test.YteicnjemaemijaaDoorPlace
import Derived.Test.YteicnjemaemijaaDoorArgs
namespace Go.Proofs.YteicnjemaemijaaDoor
open Go.RowKit Go.PlainAid

def labB (a b : Int) (s : ByteArray) : Bool := rng a 1 3 && rng b 0 999999999 && plc s

set_option maxHeartbeats 400000 in
theorem isLabelI (a b : Int) (s : ByteArray) (w : World) (hs : s.size ≤ maxLen) :
    Calls Tryd.prog 29 #[.agg #[.int .i64 a, .int .i64 b, .string s]] w fun e w' => e = .returned (.bool (labB a b s)) ∧ Below w.heap.size w w' := by
  cases h1 : rng a 1 3
  · have H : Hid (labB a b s = false) := Lib.hid (by unfold labB; rw [h1]; rfl)
    go_enter Tryd.func29, Tryd.ntmps29
    go_wp2_with (go_at_call 31; refine (within_any _ _ _ _).mono ?_; rintro e w' ⟨rfl, rfl⟩)
    go_ret
    exact ⟨ret_bool H.out.symm, by go_grown⟩
  · cases h2 : rng b 0 999999999
    · have H : Hid (labB a b s = false) := Lib.hid (by unfold labB; rw [h2]; simp)
      go_enter Tryd.func29, Tryd.ntmps29
      go_wp2_with (go_at_call 31; refine (within_any _ _ _ _).mono ?_; rintro e w' ⟨rfl, rfl⟩)
      go_ret
      exact ⟨ret_bool H.out.symm, by go_grown⟩
    · have H : Hid (labB a b s = plc s) := Lib.hid (by unfold labB; rw [h1, h2]; rfl)
      go_enter Tryd.func29, Tryd.ntmps29
      go_wp2_with (first | (go_at_call 31; refine (within_any _ _ _ _).mono ?_; rintro e w' ⟨rfl, rfl⟩) | (go_at_call 30; refine (isPlaceI _ _ hs).mono ?_; rintro e w' ⟨rfl, rfl⟩))
      go_ret
      exact ⟨ret_bool H.out.symm, by go_grown⟩
set_option maxHeartbeats 400000 in
theorem isLabelS (a b : Int) (s : ByteArray) (w : World) (hs : s.size ≤ maxLen) :
    Calls Tryd.prog 21 #[.agg #[.int .i64 a, .int .i64 b, .string s]] w fun e w' => e = .returned (.bool (labB a b s)) ∧ Below w.heap.size w w' := by
  cases h1 : rng a 1 3
  · have H : Hid (labB a b s = false) := Lib.hid (by unfold labB; rw [h1]; rfl)
    go_enter Tryd.func21, Tryd.ntmps21
    go_wp2_with (go_at_call 23; refine (l1In_any _ _ _ _).mono ?_; rintro e w' ⟨rfl, rfl⟩)
    go_ret
    exact ⟨ret_bool H.out.symm, by go_grown⟩
  · cases h2 : rng b 0 999999999
    · have H : Hid (labB a b s = false) := Lib.hid (by unfold labB; rw [h2]; simp)
      go_enter Tryd.func21, Tryd.ntmps21
      go_wp2_with (go_at_call 23; refine (l1In_any _ _ _ _).mono ?_; rintro e w' ⟨rfl, rfl⟩)
      go_ret
      exact ⟨ret_bool H.out.symm, by go_grown⟩
    · have H : Hid (labB a b s = plc s) := Lib.hid (by unfold labB; rw [h1, h2]; rfl)
      go_enter Tryd.func21, Tryd.ntmps21
      go_wp2_with (first | (go_at_call 23; refine (l1In_any _ _ _ _).mono ?_; rintro e w' ⟨rfl, rfl⟩) | (go_at_call 22; refine (isPlaceS _ _ hs).mono ?_; rintro e w' ⟨rfl, rfl⟩))
      go_ret
      exact ⟨ret_bool H.out.symm, by go_grown⟩
theorem toLabel_any (a b : Int) (s : ByteArray) (w : World) :
    Calls Tryd.prog 14 #[.agg #[.int .i64 a, .int .i64 b, .string s]] w fun e w' => e = .returned (.agg #[.int .i64 a, .int .i64 b, .string s]) ∧ Below w.heap.size w w' := by
  go_enter Tryd.func14, Tryd.ntmps14
  go_wp2
  go_returns
  exact ⟨rfl, by go_grown⟩
theorem szLabel_any (a b left : Int) (s : ByteArray) (w : World) (hl : 0 ≤ left) (hl2 : left ≤ 1048576) (hs : s.size ≤ maxLen) :
    Calls Tryd.prog 9 #[.agg #[.int .i64 a, .int .i64 b, .string s], .int .i64 left] w (SzPost s.size left w) := by
  unfold maxLen at hs
  by_cases h : left < s.size
  · go_enter Tryd.func9, Tryd.ntmps9
    go_wp2
    go_ret
    exact ⟨_, rfl, by omega, by omega, by omega, by go_grown⟩
  · go_enter Tryd.func9, Tryd.ntmps9
    go_wp2
    go_ret
    exact ⟨_, rfl, by omega, by omega, by omega, by go_grown⟩
end Go.Proofs.YteicnjemaemijaaDoor
