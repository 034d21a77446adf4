/- What the reference's division of a text at a byte answers. No condition. -/
import Derived.Test.YtaiemdamhppdmaaSplitLaw
import Derived.Test.YtaiemdamhppdmaaDraws
import Derived.Test.YtaiemdamhppdmaaOwn
import Derived.Test.YtaiemdamhppdmaaMod
import Derived.IntWalk
import Derived.Laws.AppendOwn
namespace Go.Proofs.Ytaiemdamhppdmaa
open Go.RowKit Go.PlainAid
set_option maxRecDepth 100000
set_option linter.unusedVariables false
theorem info_strT : (Try.prog.info? 9).map (fun i => (i.zero, i.size, i.bytes)) = some (some (.string ⟨#[]⟩), 1, 16) := by kernel_rfl
theorem own_emptyT (w : World) : Own (w.alloc (.cells #[] 9)) w.heap.size 9 1 vS (.slice (some ⟨w.heap.size, 0, none⟩) 0 0) [] :=
  ⟨by simp, .inr ⟨w.heap.size, 0, #[], rfl, Nat.le_refl _, by show (w.heap.push _)[w.heap.size]? = _; simp, by simp, by unfold maxLen; omega, by simp, by simp⟩⟩
theorem own_text {w : World} {base : Nat} {v : Value} {xs : List ByteArray} {t : ByteArray} (h : w.ownsRow base 9 1 v (xs.length + 1) (xs.flatMap vS ++ [.string t])) : Own w base 9 1 vS v (xs ++ [t]) := by
  unfold Own
  rw [List.flatMap_append, List.length_append]
  exact h
theorem vS_len1 : ∀ x : ByteArray, (vS x).length = 1 := fun _ => rfl
theorem take_next (s : ByteArray) {k : Nat} (h : k < s.size) : s.data.toList.take (k + 1) = s.data.toList.take k ++ [s[k]] := by
  rw [List.take_succ_eq_append_getElem (by simpa using h)]; rfl
theorem ext_word (s : ByteArray) (f i : Nat) : (s.extract f i).data.toList = (s.data.toList.take i).drop f := by
  rw [Lib.extract_data]
  rw [List.drop_take]
def SplitP (c : UInt8) (l : List UInt8) (w : World) (e : Ending) (w' : World) : Prop := ∃ (v : Value) (xs : List ByteArray), e = .returned v ∧ SliceOf w' 1 vS v xs ∧ Hid (IsSplit c l (xs.map (·.data.toList))) ∧ (∀ x ∈ xs, x.size ≤ l.length) ∧ Below w.heap.size w w'
end Go.Proofs.Ytaiemdamhppdmaa
