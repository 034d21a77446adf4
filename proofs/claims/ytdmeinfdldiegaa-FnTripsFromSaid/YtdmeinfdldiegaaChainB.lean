/- A list each of whose elements is right behind the one ahead of it. No condition. -/
import Derived.Test.YtdmeinfdldiegaaRecs
namespace Go.Proofs.Ytdmeinfdldiegaa
/-- A list each of whose elements is right behind the one ahead of it. -/
def chainB {α : Type} (ok : Option α → α → Bool) : Option α → List α → Bool
  | _, [] => true
  | p, x :: r => ok p x && chainB ok (some x) r
def prevAt {α : Type} (xs : List α) (p : Option α) : Nat → Option α
  | 0 => p
  | k + 1 => xs[k]?
theorem chain_bad {α : Type} {ok : Option α → α → Bool} : ∀ (xs : List α) (p : Option α) (k : Nat) (x : α), xs[k]? = some x → ok (prevAt xs p k) x = false → chainB ok p xs = false
  | [], p, k, x, h, _ => by simp at h
  | y :: r, p, 0, x, h, hx => by simp at h; subst h; simp only [chainB]; rw [show ok p y = false from hx]; rfl
  | y :: r, p, k + 1, x, h, hx => by
    have ih := chain_bad r (some y) k x (by simpa using h) (by
      cases k with
      | zero => simpa [prevAt] using hx
      | succ j => simpa [prevAt] using hx)
    simp only [chainB]; rw [ih]; simp
theorem chain_good {α : Type} {ok : Option α → α → Bool} : ∀ (xs : List α) (p : Option α), (∀ (k : Nat) (x : α), xs[k]? = some x → ok (prevAt xs p k) x = true) → chainB ok p xs = true
  | [], p, _ => rfl
  | y :: r, p, h => by
    have h0 := h 0 y (by simp)
    have ih := chain_good r (some y) (fun k x hk => by
      have := h (k + 1) x (by simpa using hk)
      cases k with
      | zero => simpa [prevAt] using this
      | succ j => simpa [prevAt] using this)
    simp only [chainB]; rw [show ok p y = true from h0, ih]; rfl
end Go.Proofs.Ytdmeinfdldiegaa
