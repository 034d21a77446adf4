/- How the laws measure, copy and compare Zone records and slices of them. No condition. -/
import Derived.Test.YtdnakeogofgpaaaRecs
namespace Go.Proofs.Ytdnakeogofgpaaa
open Go.RowKit Go.PlainAid
set_option maxRecDepth 100000
set_option linter.unusedVariables false
theorem Zone_len : ∀ x : ZoneD, x.vals.length = 2 := fun _ => rfl
theorem Zone_sets (L : List Value) (k : Nat) (x0 : ByteArray) (x1 : ByteArray) (hl : (k + 1) * 2 ≤ L.length) :
    (∀ j, j < 2 → (((L.set (k * 2) (.string x0)).set (k * 2 + 1) (.string x1)))[k * 2 + j]? = (({ first := x0, last := x1 } : ZoneD).vals)[j]?) ∧ (∀ i, i < k * 2 → (((L.set (k * 2) (.string x0)).set (k * 2 + 1) (.string x1)))[i]? = L[i]?) := by
  refine ⟨fun j hj => ?_, fun i hi => ?_⟩
  · have hd : ZoneD.vals { first := x0, last := x1 } = [.string x0, .string x1] := rfl
    rw [hd]
    simp only [List.getElem?_set, List.length_set]
    rcases (show j = 0 ∨ j = 1 from by omega) with rfl | rfl
    · rw [if_neg (by omega), if_pos (by omega), if_pos (by omega)]; rfl
    · rw [if_pos (by omega), if_pos (by omega)]; rfl
  · simp only [List.getElem?_set]
    rw [if_neg (by omega), if_neg (by omega)]
end Go.Proofs.Ytdnakeogofgpaaa
