/- What IsLabel answers, and how the laws copy and measure a label. No condition. -/
import Derived.Test.YteicnjemaemijaaGreatDoorPlace
import Derived.Test.YteicnjemaemijaaGreatDoorArgs
namespace Go.Proofs.YteicnjemaemijaaGreatDoor
open Go.RowKit Go.PlainAid

def labB (a b : Int) (s : ByteArray) : Bool := rng a 1 3 && rng b 0 999999999 && plc s

set_option maxHeartbeats 400000 in
theorem isLabelI (a b : Int) (s : ByteArray) (w : World) (hs : s.size ≤ maxLen) :
    Calls Tryz.prog 32 #[.agg #[.int .i64 a, .int .i64 b, .string s]] w fun e w' => e = .returned (.bool (labB a b s)) ∧ Below w.heap.size w w' := by
  cases h1 : rng a 1 3
  · have H : Hid (labB a b s = false) := Lib.hid (by unfold labB; rw [h1]; rfl)
    go_enter Tryz.func32, Tryz.ntmps32
    go_wp2_with (go_at_call 34; refine (within_any _ _ _ _).mono ?_; rintro e w' ⟨rfl, rfl⟩)
    go_ret
    exact ⟨ret_bool H.out.symm, by go_grown⟩
  · cases h2 : rng b 0 999999999
    · have H : Hid (labB a b s = false) := Lib.hid (by unfold labB; rw [h2]; simp)
      go_enter Tryz.func32, Tryz.ntmps32
      go_wp2_with (go_at_call 34; refine (within_any _ _ _ _).mono ?_; rintro e w' ⟨rfl, rfl⟩)
      go_ret
      exact ⟨ret_bool H.out.symm, by go_grown⟩
    · have H : Hid (labB a b s = plc s) := Lib.hid (by unfold labB; rw [h1, h2]; rfl)
      go_enter Tryz.func32, Tryz.ntmps32
      go_wp2_with (first | (go_at_call 34; refine (within_any _ _ _ _).mono ?_; rintro e w' ⟨rfl, rfl⟩) | (go_at_call 33; refine (isPlaceI _ _ hs).mono ?_; rintro e w' ⟨rfl, rfl⟩))
      go_ret
      exact ⟨ret_bool H.out.symm, by go_grown⟩
set_option maxHeartbeats 400000 in
theorem isLabelS (a b : Int) (s : ByteArray) (w : World) (hs : s.size ≤ maxLen) :
    Calls Tryz.prog 37 #[.agg #[.int .i64 a, .int .i64 b, .string s]] w fun e w' => e = .returned (.bool (labB a b s)) ∧ Below w.heap.size w w' := by
  cases h1 : rng a 1 3
  · have H : Hid (labB a b s = false) := Lib.hid (by unfold labB; rw [h1]; rfl)
    go_enter Tryz.func37, Tryz.ntmps37
    go_wp2_with (go_at_call 39; refine (l1In_any _ _ _ _).mono ?_; rintro e w' ⟨rfl, rfl⟩)
    go_ret
    exact ⟨ret_bool H.out.symm, by go_grown⟩
  · cases h2 : rng b 0 999999999
    · have H : Hid (labB a b s = false) := Lib.hid (by unfold labB; rw [h2]; simp)
      go_enter Tryz.func37, Tryz.ntmps37
      go_wp2_with (go_at_call 39; refine (l1In_any _ _ _ _).mono ?_; rintro e w' ⟨rfl, rfl⟩)
      go_ret
      exact ⟨ret_bool H.out.symm, by go_grown⟩
    · have H : Hid (labB a b s = plc s) := Lib.hid (by unfold labB; rw [h1, h2]; rfl)
      go_enter Tryz.func37, Tryz.ntmps37
      go_wp2_with (first | (go_at_call 39; refine (l1In_any _ _ _ _).mono ?_; rintro e w' ⟨rfl, rfl⟩) | (go_at_call 38; refine (isPlaceS _ _ hs).mono ?_; rintro e w' ⟨rfl, rfl⟩))
      go_ret
      exact ⟨ret_bool H.out.symm, by go_grown⟩
end Go.Proofs.YteicnjemaemijaaGreatDoor
