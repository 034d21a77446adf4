/- How the laws measure, copy and compare Leg records and slices of them. No condition. -/
import Derived.Test.YtemlgfbfomkdaaaDoorRecs
namespace Go.Proofs.YtemlgfbfomkdaaaDoor
open Go.RowKit Go.PlainAid
set_option maxRecDepth 100000
set_option linter.unusedVariables false
theorem Leg_len : ∀ x : LegD, x.vals.length = 6 := fun _ => rfl
theorem Leg_sets (L : List Value) (k : Nat) (x0 : ByteArray) (x1 : ByteArray) (x2 : Int) (x3 : Int) (x4 : Int) (x5 : Int) (hl : (k + 1) * 6 ≤ L.length) :
    (∀ j, j < 6 → (((((((L.set (k * 6) (.string x0)).set (k * 6 + 1) (.string x1)).set (k * 6 + 2) (.int .i64 x2)).set (k * 6 + 3) (.int .i64 x3)).set (k * 6 + 4) (.int .i64 x4)).set (k * 6 + 5) (.int .i64 x5)))[k * 6 + j]? = (({ src := x0, dst := x1, start := x2, takes := x3, days := x4, room := x5 } : LegD).vals)[j]?) ∧ (∀ i, i < k * 6 → (((((((L.set (k * 6) (.string x0)).set (k * 6 + 1) (.string x1)).set (k * 6 + 2) (.int .i64 x2)).set (k * 6 + 3) (.int .i64 x3)).set (k * 6 + 4) (.int .i64 x4)).set (k * 6 + 5) (.int .i64 x5)))[i]? = L[i]?) := by
  refine ⟨fun j hj => ?_, fun i hi => ?_⟩
  · have hd : LegD.vals { src := x0, dst := x1, start := x2, takes := x3, days := x4, room := x5 } = [.string x0, .string x1, .int .i64 x2, .int .i64 x3, .int .i64 x4, .int .i64 x5] := rfl
    rw [hd]
    simp only [List.getElem?_set, List.length_set]
    rcases (show j = 0 ∨ j = 1 ∨ j = 2 ∨ j = 3 ∨ j = 4 ∨ j = 5 from by omega) with rfl | rfl | rfl | rfl | rfl | rfl
    · rw [if_neg (by omega), if_neg (by omega), if_neg (by omega), if_neg (by omega), if_neg (by omega), if_pos (by omega), if_pos (by omega)]; rfl
    · rw [if_neg (by omega), if_neg (by omega), if_neg (by omega), if_neg (by omega), if_pos (by omega), if_pos (by omega)]; rfl
    · rw [if_neg (by omega), if_neg (by omega), if_neg (by omega), if_pos (by omega), if_pos (by omega)]; rfl
    · rw [if_neg (by omega), if_neg (by omega), if_pos (by omega), if_pos (by omega)]; rfl
    · rw [if_neg (by omega), if_pos (by omega), if_pos (by omega)]; rfl
    · rw [if_pos (by omega), if_pos (by omega)]; rfl
  · simp only [List.getElem?_set]
    rw [if_neg (by omega), if_neg (by omega), if_neg (by omega), if_neg (by omega), if_neg (by omega), if_neg (by omega)]
set_option maxHeartbeats 800000 in
theorem eqLeg_same (x0 : ByteArray) (x1 : ByteArray) (x2 : Int) (x3 : Int) (x4 : Int) (x5 : Int) (w : World) : Calls Tryd.prog 16 #[.agg #[.string x0, .string x1, .int .i64 x2, .int .i64 x3, .int .i64 x4, .int .i64 x5], .agg #[.string x0, .string x1, .int .i64 x2, .int .i64 x3, .int .i64 x4, .int .i64 x5]] w fun e w' => e = .returned (.bool true) ∧ Below w.heap.size w w' := by
  go_enter Tryd.func16, Tryd.ntmps16
  go_wp2
  repeat (go_quiet (fail); go_wp2)
  go_ret
  exact ⟨rfl, by first | go_grown | (refine below_drewN ?_ _; go_grown)⟩
end Go.Proofs.YtemlgfbfomkdaaaDoor
