/- The law FnExactParseLabel walked: it returns true. No condition. -/
import Derived.Test.YtpodbdmeamgpgaaDoorParseLab
namespace Go.Proofs.YtpodbdmeamgpgaaDoor
open Go.RowKit Go.PlainAid
set_option maxRecDepth 100000
set_option linter.unusedVariables false
theorem eqLabel_same (a b : Int) (s : ByteArray) (w : World) : Calls Tryd.prog 46 #[.agg #[.int .i64 a, .int .i64 b, .string s], .agg #[.int .i64 a, .int .i64 b, .string s]] w fun e w' => e = .returned (.bool true) ∧ Below w.heap.size w w' := by
  go_enter Tryd.func46, Tryd.ntmps46
  go_wp2
  go_ret
  exact ⟨rfl, by go_grown⟩
set_option maxHeartbeats 1600000 in
theorem walk_ExactParseLabel (v0 : Value) (w : World) (h0 : VStr v0) (ht : Errs w) : Calls Tryd.prog 12 #[v0] w fun e w' => e = .returned (.bool true) ∧ Below w.heap.size w w' := by
  obtain ⟨s, rfl, hs⟩ := h0
  unfold maxLen at hs
  by_cases hb : (s.size : Int) ≤ 1048576
  · go_enter Tryd.func12, Tryd.ntmps12
    go_wp2_with fail
    refine (parseLabS s _ (by omega) ht.1).mono ?_
    rintro e w1 ⟨d, k, rfl, H, b1⟩
    go_wp2_with fail
    obtain ⟨V, hV⟩ : ∃ V, V = w1.alloc (.cells #[.int .i64 d.service, .int .i64 d.serial, .string d.dest] 38) := ⟨_, rfl⟩
    rw [← hV]
    have X : Box V w1.heap.size 38 #[.int .i64 d.service, .int .i64 d.serial, .string d.dest] := by rw [hV]; exact Box.new _ _ _
    have B1 : Below w.heap.size w V := by rw [hV]; exact b1.alloc b1.size _
    clear hV
    refine (parseLabI s _ (by omega) (ht.keep B1)).mono ?_
    rintro e w2 ⟨d2, k2, rfl, H2, b2⟩
    obtain ⟨rfl, rfl⟩ := H2.out.unique H.out
    replace X := X.keep b2
    have B2 := chain B1 b2
    have n2 := X.lt
    have x0 : w2.cell? ⟨w1.heap.size, 0, none⟩ = some (.int .i64 d2.service) := X.cell 0
    have x1 : w2.cell? ⟨w1.heap.size, 1, none⟩ = some (.int .i64 d2.serial) := X.cell 1
    have x2 : w2.cell? ⟨w1.heap.size, 2, none⟩ = some (.string d2.dest) := X.cell 2
    go_wp2_with fail
    refine (eqLabel_same d2.service d2.serial d2.dest _).mono ?_
    rintro e w3 ⟨rfl, b3⟩
    have B3 := chain (B2.alloc B2.size _) b3
    cases k2
    all_goals
      go_wp2_with fail
      go_ret
      exact ⟨rfl, B3⟩
  · go_enter Tryd.func12, Tryd.ntmps12
    go_wp2_with fail
    go_ret
    exact ⟨rfl, Below.refl _ _⟩
end Go.Proofs.YtpodbdmeamgpgaaDoor
