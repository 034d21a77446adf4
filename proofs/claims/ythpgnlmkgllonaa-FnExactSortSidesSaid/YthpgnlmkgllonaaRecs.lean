/- How the laws measure, copy and compare records and slices of them. No condition. -/
import Derived.Test.YthpgnlmkgllonaaOwn
import Derived.Test.YthpgnlmkgllonaaSides
import Derived.StillTailTactics
namespace Go.Proofs.Ythpgnlmkgllonaa
open Go.RowKit Go.PlainAid
set_option maxRecDepth 100000
set_option linter.unusedVariables false
/-- Element k of a slice of records: its cells. -/
theorem SliceOf.cells {α : Type} {w : World} {size : Nat} {vals : α → List Value} {A : Option Addr} {n c : Nat} {xs : List α} (h : SliceOf w size vals (.slice A n c) xs) {k : Nat} (hk : k < xs.length) :
    ∃ b off x, A = some ⟨b, off, none⟩ ∧ b < w.heap.size ∧ Hid (xs[k]? = some x) ∧ ∀ (j : Nat) (u : Value), (vals x)[j]? = some u → w.cell? ⟨b, off + k * size + j, none⟩ = some u := by
  obtain ⟨A', c', e, h1, h2, h3⟩ := h
  injection e with e1 e2 e3
  subst e1 e2 e3
  obtain ⟨b, off, hA, hlt, hc⟩ := h3 (by omega)
  exact ⟨b, off, xs[k], hA, hlt, List.getElem?_eq_getElem hk, fun j u hu => by have := hc k xs[k] j u (List.getElem?_eq_getElem hk) hu; rwa [← Nat.add_assoc] at this⟩
theorem mem_of {α : Type} {xs : List α} {k : Nat} {x : α} (h : xs[k]? = some x) : x ∈ xs := List.mem_of_getElem? h
/-- What is left when a slice of records has been measured. -/
def SzsPost (n : Nat) (left : Int) (w : World) (e : Ending) (w' : World) : Prop := ∃ r : Int, e = .returned (.int .i64 r) ∧ -1 ≤ r ∧ r ≤ left ∧ (0 ≤ r → (n : Int) ≤ left) ∧ Below w.heap.size w w'
/-- A slice of the call's own that reads as xs. -/
def MadeR {α : Type} (e : TypeId) (size : Nat) (vals : α → List Value) (xs : List α) (w : World) (en : Ending) (w' : World) : Prop := ∃ v, en = .returned v ∧ Own w' w.heap.size e size vals v xs ∧ Below w.heap.size w w'
/-- A row whose first k pieces are those of xs, and which is as long as all of xs, is xs once k has come to the end. -/
theorem row_eq_pieces {α : Type} {size : Nat} {vals : α → List Value} (hv : ∀ x, (vals x).length = size) {xs : List α} {L : List Value} (hl : L.length = xs.length * size)
    (h : ∀ (k : Nat) (x : α) (j : Nat), xs[k]? = some x → j < size → L[k * size + j]? = (vals x)[j]?) : L = xs.flatMap vals := by
  apply List.ext_getElem?
  intro i
  rcases Nat.lt_or_ge i (xs.length * size) with hi | hi
  · have hs : 0 < size := by rcases Nat.eq_zero_or_pos size with h0 | h0; (subst h0; omega); exact h0
    have hk : i / size < xs.length := by rw [Nat.div_lt_iff_lt_mul hs]; exact hi
    have hj : i % size < size := Nat.mod_lt _ hs
    have e : i = (i / size) * size + i % size := by rw [Nat.mul_comm]; exact (Nat.div_add_mod i size).symm
    have h1 := h (i / size) xs[i / size] (i % size) (List.getElem?_eq_getElem hk) hj
    have h2 : (vals xs[i / size])[i % size]? = some ((vals xs[i / size])[i % size]'(by rw [hv]; exact hj)) := List.getElem?_eq_getElem _
    have h3 := flatMap_at hv xs (i / size) xs[i / size] (i % size) _ (List.getElem?_eq_getElem hk) h2
    rw [← e] at h1 h3
    rw [h1, h3, h2]
  · rw [List.getElem?_eq_none (by omega), List.getElem?_eq_none (by rw [flatMap_len hv]; omega)]

end Go.Proofs.Ythpgnlmkgllonaa
