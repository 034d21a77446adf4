/- Slices that a call made itself: what they hold, and that they read as a list. No condition. -/
import Derived.Test.YthpgnlmkgllonaaArgs
namespace Go.Proofs.Ythpgnlmkgllonaa
open Go.RowKit Go.PlainAid
set_option maxRecDepth 100000
set_option linter.unusedVariables false

/-- Cell k * size + j of a list of equal pieces. -/
theorem flatMap_at {α : Type} {size : Nat} {vals : α → List Value} (hv : ∀ x, (vals x).length = size) : ∀ (xs : List α) (k : Nat) (x : α) (j : Nat) (u : Value), xs[k]? = some x → (vals x)[j]? = some u → (xs.flatMap vals)[k * size + j]? = some u
  | [], k, x, j, u, h, _ => by simp at h
  | y :: ys, 0, x, j, u, h, hu => by
    simp at h; subst h
    have hj : j < (vals y).length := (List.getElem?_eq_some_iff.1 hu).1
    rw [List.flatMap_cons, Nat.zero_mul, Nat.zero_add, List.getElem?_append_left hj, hu]
  | y :: ys, k + 1, x, j, u, h, hu => by
    have h' : ys[k]? = some x := by simpa using h
    have e : (k + 1) * size + j = size + (k * size + j) := by rw [Nat.succ_mul]; omega
    rw [List.flatMap_cons, e, List.getElem?_append_right (by rw [hv]; omega), hv, Nat.add_sub_cancel_left]
    exact flatMap_at hv ys k x j u h' hu
theorem flatMap_len {α : Type} {size : Nat} {vals : α → List Value} (hv : ∀ x, (vals x).length = size) (xs : List α) : (xs.flatMap vals).length = xs.length * size := by
  induction xs with
  | nil => simp
  | cons x xs ih => simp [ih, hv, Nat.succ_mul]; omega

/-- A slice of the call's own that holds the list xs. -/
def Own {α : Type} (w : World) (base : Nat) (e : TypeId) (size : Nat) (vals : α → List Value) (v : Value) (xs : List α) : Prop :=
  w.ownsRow base e size v xs.length (xs.flatMap vals)
theorem Own.slice {α : Type} {w : World} {base size : Nat} {e : TypeId} {vals : α → List Value} {v : Value} {xs : List α} (hv : ∀ x, (vals x).length = size) (hs : 0 < size) (h : Own w base e size vals v xs) : SliceOf w size vals v xs := by
  have hl := World.ownsRow.lt h
  rcases h.2 with ⟨rfl, h0⟩ | ⟨g, cap, cur, rfl, hb, hg, hnc, hcm, hcs, htake⟩
  · exact ⟨none, 0, by rw [h0], by omega, by unfold maxLen; omega, fun hn => by omega⟩
  · refine ⟨_, cap, rfl, hnc, hcm, fun hn => ⟨g, 0, rfl, (hl g rfl).2, fun k x j u hx hu => ?_⟩⟩
    have hj : j < size := by rw [← hv x]; exact (List.getElem?_eq_some_iff.1 hu).1
    have hk : k < xs.length := (List.getElem?_eq_some_iff.1 hx).1
    have hlt : k * size + j < xs.length * size := by
      have := Nat.mul_le_mul_right size (Nat.succ_le_of_lt hk)
      rw [Nat.succ_mul] at this
      omega
    rw [Nat.zero_add, World.ownsRow.cellAt h _ hlt]
    exact flatMap_at hv xs k x j u hx hu
/-- Where it lies: from base on. -/
theorem Own.keep {α : Type} {w w' : World} {base size B : Nat} {e : TypeId} {vals : α → List Value} {v : Value} {xs : List α} (h : Own w base e size vals v xs) (hb : Below B w w') (hB : w.heap.size ≤ B) : Own w' base e size vals v xs := by
  refine ⟨h.1, ?_⟩
  rcases h.2 with h0 | ⟨g, cap, cur, hv, hbg, hg, r⟩
  · exact .inl h0
  · exact .inr ⟨g, cap, cur, hv, hbg, by rw [hb.block g (Nat.lt_of_lt_of_le (Array.getElem?_eq_some_iff.1 hg).1 hB)]; exact hg, r⟩
theorem Own.nil_ {α : Type} (w : World) (base : Nat) (e : TypeId) (size : Nat) (vals : α → List Value) : Own w base e size vals (.slice none 0 0) [] := ⟨by simp, .inl ⟨rfl, rfl⟩⟩
theorem Own.mono {α : Type} {w : World} {base base' size : Nat} {e : TypeId} {vals : α → List Value} {v : Value} {xs : List α} (h : Own w base e size vals v xs) (hb : base' ≤ base) : Own w base' e size vals v xs :=
  ⟨h.1, h.2.elim .inl fun ⟨g, cap, cur, hv, hg, r⟩ => .inr ⟨g, cap, cur, hv, Nat.le_trans hb hg, r⟩⟩
theorem Own.alloc {α : Type} {w : World} {base size : Nat} {e : TypeId} {vals : α → List Value} {v : Value} {xs : List α} (h : Own w base e size vals v xs) (o : Obj) : Own (w.alloc o) base e size vals v xs := World.ownsRow.alloc h o
theorem Own.drewN {α : Type} {w : World} {base size : Nat} {e : TypeId} {vals : α → List Value} {v : Value} {xs : List α} (h : Own w base e size vals v xs) (n : Nat) : Own (w.drewN n) base e size vals v xs := h
theorem Own.form {α : Type} {w : World} {base size : Nat} {e : TypeId} {vals : α → List Value} {v : Value} {xs : List α} (h : Own w base e size vals v xs) : ∃ A c, v = .slice A xs.length c ∧ xs.length ≤ c ∧ c ≤ maxLen := by
  rcases h.2 with ⟨rfl, h0⟩ | ⟨g, cap, cur, rfl, hb, hg, hnc, hcm, hcs, htake⟩
  · exact ⟨none, 0, by rw [h0], by omega, by unfold maxLen; omega⟩
  · exact ⟨_, cap, rfl, hnc, hcm⟩

theorem flatMap_vI (xs : List Int) : xs.flatMap vI = xs.map (Value.int .i64) := by
  induction xs with
  | nil => rfl
  | cons x xs ih => simp [vI, ih]
/-- A row that agrees with xs up to its end is xs. -/
theorem row_eq_of {xs : List Int} {L : List Value} (hl : L.length = xs.length) (h : ∀ j, j < xs.length → L[j]? = (xs[j]?).map (Value.int .i64)) : L = xs.flatMap vI := by
  rw [flatMap_vI]
  apply List.ext_getElem? 
  intro j
  rw [List.getElem?_map]
  rcases Nat.lt_or_ge j xs.length with hj | hj
  · exact h j hj
  · rw [List.getElem?_eq_none (by omega), List.getElem?_eq_none (by omega)]; rfl
theorem vI_len : ∀ x : Int, (vI x).length = 1 := fun _ => rfl
theorem info_int : (Try.prog.info? 3).map (fun i => (i.zero, i.size, i.bytes)) = some (some (.int .i64 0), 1, 8) := by kernel_rfl
end Go.Proofs.Ythpgnlmkgllonaa
