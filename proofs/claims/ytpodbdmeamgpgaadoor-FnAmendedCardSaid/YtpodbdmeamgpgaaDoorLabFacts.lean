/- Plain facts for the labels' laws. No condition. -/
import Derived.Test.YtpodbdmeamgpgaaDoorParseLab
import Derived.Test.YtpodbdmeamgpgaaDoorWExactParseLabel
import Derived.Test.YtpodbdmeamgpgaaDoorDrawLab
import Derived.Test.YtpodbdmeamgpgaaDoorAt
import Derived.Test.YtpodbdmeamgpgaaDoorSwap
import Derived.RegionTactic
namespace Go.Proofs.YtpodbdmeamgpgaaDoor
open Go.RowKit Go.PlainAid
open Go.Lib (itoa decDigits decDigits_two)
set_option maxRecDepth 100000
set_option linter.unusedVariables false
theorem names_size {s : ByteArray} (h : s ∈ labelNames) : s.size ≤ maxLen := by
  have : ∀ x ∈ labelNames, x.size ≤ 4 := by decide
  have := this s h
  unfold maxLen; omega
theorem conv1d (w : World) (T : TypeId) (c : Int) : (convert 44 9 (.slice (some ⟨w.heap.size, 0, none⟩) 1 1)).run Tryd.prog (w.alloc (.cells #[.int .u8 c] T)).drew = .ok (.string ⟨#[UInt8.ofNat c.toNat]⟩) (w.alloc (.cells #[.int .u8 c] T)).drew := by
  rw [run_convert_bytes_string _ _ _ 5 _ _ _ Tryd.underlying44 Tryd.underlying5 Tryd.underlying9,
    run_bytesToString _ _ _ _ [c] (by simp [go_sem, loadCells])]
  rfl
theorem emp_of {r : ByteArray} (h : r.data.toList = []) : r.toList.isEmpty = true := by rw [Lib.toList_data, h]; rfl
theorem notemp_of {r : ByteArray} (h : r.size ≠ 0) : r.toList.isEmpty = false := by rw [Lib.toList_data]; exact emp_false h
theorem chg_at {l : List UInt8} {i : Nat} {b : UInt8} (hi : i < l.length) : ∀ j, j ≠ i → l[j]? = (l.take i ++ [b] ++ l.drop (i + 1))[j]? := by
  intro j hj
  have hl : (l.take i).length = i := by rw [List.length_take]; omega
  rcases Nat.lt_trichotomy j i with h | h | h
  · rw [List.append_assoc, List.getElem?_append_left (by omega), List.getElem?_take, if_pos h]
  · exact absurd h hj
  · rw [List.getElem?_append_right (by rw [List.length_append, hl]; simp; omega), List.length_append, hl, List.length_singleton, List.getElem?_drop]
    congr 1; omega
theorem lab_ok15 {l : List UInt8} {d : LabelD} {ok : Bool} (h : IsLab l d ok) (k : ok = true) : Lab15 l := by
  rcases h with ⟨_, h1, h2⟩ | ⟨h1, _⟩
  · rw [← h2]; exact lab15_flab h1
  · rw [h1] at k; cases k
theorem lab_is {l : List UInt8} {d e : LabelD} {ok : Bool} (hd : labOk d = true) (hl : flabL d = l) (h : IsLab l e ok) : e = d ∧ ok = true := h.unique (.inl ⟨rfl, hd, hl⟩)
theorem lab_nil {d : LabelD} {ok : Bool} (h : IsLab [] d ok) : ok = false := (h.unique (lab_len (by simp))).2
theorem swp_data (s : ByteArray) (n : Nat) : (swp s n).data.toList = swapL s.data.toList n := by
  unfold swp swapL
  simp only [ByteArray.data_append, Array.toList_append, ext_take]
  have e1 : n + 2 - (n + 1) = 1 := by omega
  have e2 : n + 1 - n = 1 := by omega
  have e3 : (s.data.toList.drop (n + 2)).take (s.size - (n + 2)) = s.data.toList.drop (n + 2) := List.take_of_length_le (by rw [List.length_drop, data_len]; exact Nat.le_refl _)
  rw [e1, e2, e3]; simp
theorem swapL_len {l : List UInt8} {n : Nat} (h : n + 1 < l.length) : (swapL l n).length = l.length := by
  unfold swapL
  simp only [List.length_append, List.length_take, List.length_drop]
  omega
theorem swapL_two {p q : List UInt8} {x y : UInt8} : swapL (p ++ x :: y :: q) p.length = p ++ y :: x :: q := by
  unfold swapL
  have d1 : (p ++ x :: y :: q).drop (p.length + 1) = y :: q := by rw [← List.drop_drop, List.drop_left]; rfl
  have d2 : (p ++ x :: y :: q).drop p.length = x :: y :: q := List.drop_left
  have d3 : (p ++ x :: y :: q).drop (p.length + 2) = q := by rw [← List.drop_drop, List.drop_left]; rfl
  rw [d1, d2, d3, List.take_left]
  simp
theorem swapL_back {l : List UInt8} {n : Nat} (h : n + 1 < l.length) : swapL (swapL l n) n = l := by
  have e : l = l.take n ++ l[n] :: l[n + 1] :: l.drop (n + 2) := by
    have h1 : l.drop n = l[n] :: l.drop (n + 1) := List.drop_eq_getElem_cons (by omega)
    have h2 : l.drop (n + 1) = l[n + 1] :: l.drop (n + 2) := List.drop_eq_getElem_cons (by omega)
    rw [← h2, ← h1, List.take_append_drop]
  have hn : (l.take n).length = n := by rw [List.length_take]; omega
  generalize l[n] = x at e
  generalize l[n + 1] = y at e
  generalize l.take n = p at e hn
  generalize l.drop (n + 2) = q at e
  subst hn
  rw [e, swapL_two, swapL_two]
end Go.Proofs.YtpodbdmeamgpgaaDoor
