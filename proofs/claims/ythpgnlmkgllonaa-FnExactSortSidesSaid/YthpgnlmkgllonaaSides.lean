/- Three sides, the volume, and how the laws copy and compare a list of numbers. No condition. -/
import Derived.Test.YthpgnlmkgllonaaPlace
import Derived.Test.YthpgnlmkgllonaaArgs
import Derived.Deep.QuietTactic
import Derived.BigQuiet
namespace Go.Proofs.Ythpgnlmkgllonaa
open Go.RowKit Go.PlainAid
set_option maxRecDepth 100000

/-- Element k of a list of numbers. -/
theorem SliceOf.at1 {w : World} {A : Option Addr} {n c : Nat} {xs : List Int} (h : SliceOf w 1 vI (.slice A n c) xs) {k : Nat} (hk : k < xs.length) :
    ∃ b off, A = some ⟨b, off, none⟩ ∧ b < w.heap.size ∧ w.cell? ⟨b, off + k, none⟩ = some (.int .i64 (xs[k])) := by
  obtain ⟨A', c', e, h1, h2, h3⟩ := h
  injection e with e1 e2 e3
  subst e1 e2 e3
  obtain ⟨b, off, hA, hlt, hc⟩ := h3 (by omega)
  refine ⟨b, off, hA, hlt, ?_⟩
  have := hc k xs[k] 0 (.int .i64 xs[k]) (List.getElem?_eq_getElem hk) rfl
  simpa using this
theorem SliceOf.len {α : Type} {w : World} {size : Nat} {vals : α → List Value} {A : Option Addr} {n c : Nat} {xs : List α} (h : SliceOf w size vals (.slice A n c) xs) : n = xs.length ∧ xs.length ≤ c ∧ c ≤ maxLen := by
  obtain ⟨A', c', e, h1, h2, h3⟩ := h
  injection e with e1 e2 e3
  subst e1 e2 e3
  exact ⟨rfl, h1, h2⟩
theorem SliceOf.form {α : Type} {w : World} {size : Nat} {vals : α → List Value} {v : Value} {xs : List α} (h : SliceOf w size vals v xs) : ∃ A c, v = .slice A xs.length c ∧ xs.length ≤ c ∧ c ≤ maxLen := by
  obtain ⟨A', c', e, h1, h2, h3⟩ := h
  exact ⟨A', c', e, h1, h2⟩

def three (xs : List Int) : Bool := decide (xs.length = 3 ∧ ∀ x ∈ xs, 1 ≤ x ∧ x ≤ 2000)
theorem three_true {xs : List Int} (h1 : xs.length = 3) (h2 : ∀ x ∈ xs, 1 ≤ x ∧ x ≤ 2000) : three xs = true := decide_eq_true ⟨h1, h2⟩
theorem three_false {xs : List Int} (h : ¬ (xs.length = 3 ∧ ∀ x ∈ xs, 1 ≤ x ∧ x ≤ 2000)) : three xs = false := decide_eq_false h
theorem three_iff {xs : List Int} : three xs = true ↔ xs.length = 3 ∧ ∀ x ∈ xs, 1 ≤ x ∧ x ≤ 2000 := decide_eq_true_iff
theorem three_of {xs : List Int} (h : three xs = true) : ∃ a b c, xs = [a, b, c] ∧ (1 ≤ a ∧ a ≤ 2000) ∧ (1 ≤ b ∧ b ≤ 2000) ∧ (1 ≤ c ∧ c ≤ 2000) := by
  obtain ⟨h1, h2⟩ := three_iff.1 h
  match xs, h1 with
  | [a, b, c], _ => exact ⟨a, b, c, rfl, h2 a (by simp), h2 b (by simp), h2 c (by simp)⟩

theorem all_take_succ {xs : List Int} {p : Int → Prop} {k : Nat} (hk : k < xs.length) (h : ∀ x ∈ xs.take k, p x) (hx : p xs[k]) : ∀ x ∈ xs.take (k + 1), p x := by
  intro x hm
  rw [List.take_succ_eq_append_getElem hk, List.mem_append] at hm
  rcases hm with hm | hm
  · exact h x hm
  · simp at hm; subst hm; exact hx

/-- The volume. -/
def vol (xs : List Int) : Int := if three xs then xs.getD 0 0 * xs.getD 1 0 * xs.getD 2 0 else 0
theorem mul_le2 {a b : Int} (ha : 1 ≤ a ∧ a ≤ 2000) (hb : 1 ≤ b ∧ b ≤ 2000) : 1 ≤ a * b ∧ a * b ≤ 4000000 :=
  ⟨by have := Int.mul_le_mul ha.1 hb.1 (by omega) (by omega); omega, by have := Int.mul_le_mul ha.2 hb.2 (by omega) (by omega); omega⟩
theorem mul_le3 {p c : Int} (hp : 1 ≤ p ∧ p ≤ 4000000) (hc : 1 ≤ c ∧ c ≤ 2000) : 1 ≤ p * c ∧ p * c ≤ 8000000000 :=
  ⟨by have := Int.mul_le_mul hp.1 hc.1 (by omega) (by omega); omega, by have := Int.mul_le_mul hp.2 hc.2 (by omega) (by omega); omega⟩
end Go.Proofs.Ythpgnlmkgllonaa
