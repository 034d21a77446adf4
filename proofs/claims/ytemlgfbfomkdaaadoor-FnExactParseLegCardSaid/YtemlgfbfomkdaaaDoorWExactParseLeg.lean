/- The law FnExactParseLeg walked: it returns true. The condition: the library's variables read as their initialisers lay them. -/
import Derived.Test.YtemlgfbfomkdaaaDoorParseLegS
import Derived.Test.YtemlgfbfomkdaaaDoorRecLeg
namespace Go.Proofs.YtemlgfbfomkdaaaDoor
open Go.RowKit Go.PlainAid
set_option maxRecDepth 100000
set_option linter.unusedVariables false
set_option maxHeartbeats 1600000 in
theorem walk_ExactParseLeg (v0 : Value) (w : World) (p0 : VStr v0) (h : Errs w) (hsh : w.ShapedOpen Tryd.prog) : Calls Tryd.prog 5 #[v0] w fun e w' => e = .returned (.bool true) ∧ Below w.heap.size w w' := by
  obtain ⟨s, rfl, hs⟩ := p0
  unfold maxLen at hs
  have hm := maxL_of hsh
  by_cases hb : 1048576 < (s.size : Int)
  · go_enter Tryd.func5, Tryd.ntmps5
    go_wp2_with fail
    go_ret
    exact ⟨rfl, Below.refl _ _⟩
  go_enter Tryd.func5, Tryd.ntmps5
  go_wp2_with fail
  refine (parseLegS s _ (by omega) h.1).mono ?_
  rintro e w1 ⟨⟨d1, d2, d3, d4, d5, d6⟩, ok, rfl, HT, b1⟩
  simp only
  go_wp2_with fail
  obtain ⟨W, hW⟩ : ∃ W, W = w1.alloc (.cells #[.string d1, .string d2, .int .i64 d3, .int .i64 d4, .int .i64 d5, .int .i64 d6] 30) := ⟨_, rfl⟩
  rw [← hW]
  obtain ⟨q, hq⟩ : ∃ q, q = w1.heap.size := ⟨_, rfl⟩
  rw [← hq]
  have L : Box W q 30 #[.string d1, .string d2, .int .i64 d3, .int .i64 d4, .int .i64 d5, .int .i64 d6] := by rw [hW, hq]; exact Box.new _ _ _
  have bW : Below w.heap.size w W := by rw [hW]; exact b1.alloc b1.size _
  clear hW hq b1
  refine (parseLegI s _ (by omega) (h.keep bW) (hm.keep bW)).mono ?_
  rintro e w2 ⟨⟨f1, f2, f3, f4, f5, f6⟩, ok2, rfl, HT2, b2⟩
  obtain ⟨e1, rfl⟩ := IsLegT.unique HT.out HT2.out
  injection e1 with e1 e2 e3 e4 e5 e6
  subst e1 e2 e3 e4 e5 e6
  simp only
  have B2 := chain bW b2
  replace L := L.keep b2
  have l0 : w2.cell? ⟨q, 0, none⟩ = some (.string d1) := L.cell 0
  have l1 : w2.cell? ⟨q, 1, none⟩ = some (.string d2) := L.cell 1
  have l2 : w2.cell? ⟨q, 2, none⟩ = some (.int .i64 d3) := L.cell 2
  have l3 : w2.cell? ⟨q, 3, none⟩ = some (.int .i64 d4) := L.cell 3
  have l4 : w2.cell? ⟨q, 4, none⟩ = some (.int .i64 d5) := L.cell 4
  have l5 : w2.cell? ⟨q, 5, none⟩ = some (.int .i64 d6) := L.cell 5
  have nq : q < w2.heap.size := L.lt
  clear bW b2
  go_wp2_with fail
  refine (eqLeg_same _ _ _ _ _ _ _).mono ?_
  rintro e w3 ⟨rfl, b3⟩
  have e2 : (ok != ok) = false := by simp
  go_wp2_with fail
  go_ret
  exact ⟨rfl, chain (below_allocG B2 _) b3⟩
end Go.Proofs.YtemlgfbfomkdaaaDoor
