/- Texts divided at a byte: the words are what they are. No condition. -/
import Derived.Test.YteicnjemaemijaaGreatDoorBase
namespace Go.Proofs.YteicnjemaemijaaGreatDoor
/-- The words with the byte between them. -/
def joinC (c : UInt8) : List (List UInt8) → List UInt8
  | [] => []
  | [w] => w
  | w :: v :: r => w ++ c :: joinC c (v :: r)
/-- The words of a text, none of which has the byte. -/
def IsSplit (c : UInt8) (l : List UInt8) (ws : List (List UInt8)) : Prop := ws ≠ [] ∧ joinC c ws = l ∧ ∀ w ∈ ws, c ∉ w
theorem joinC_cons (c : UInt8) (w : List UInt8) {ws : List (List UInt8)} (h : ws ≠ []) : joinC c (w :: ws) = w ++ c :: joinC c ws := by
  cases ws with
  | nil => exact absurd rfl h
  | cons v r => rfl
theorem joinC_snoc (c : UInt8) (v : List UInt8) : ∀ {ws : List (List UInt8)}, ws ≠ [] → joinC c (ws ++ [v]) = joinC c ws ++ c :: v
  | [], h => absurd rfl h
  | [w], _ => rfl
  | w :: x :: r, _ => by
    have ih := joinC_snoc c v (ws := x :: r) (by simp)
    rw [List.cons_append, joinC_cons c w (by simp), ih, joinC_cons c w (by simp)]
    simp
theorem joinC_grow (c : UInt8) (w v : List UInt8) : ∀ (ws : List (List UInt8)), joinC c (ws ++ [w ++ v]) = joinC c (ws ++ [w]) ++ v
  | [] => rfl
  | x :: r => by
    rw [joinC_snoc c _ (by simp), joinC_snoc c _ (by simp)]; simp
/-- Where the first word ends. -/
theorem cut_unique {c : UInt8} : ∀ {w v x y : List UInt8}, c ∉ w → c ∉ v → w ++ c :: x = v ++ c :: y → w = v ∧ x = y
  | [], [], x, y, _, _, h => ⟨rfl, by simpa using h⟩
  | [], b :: v, x, y, _, hv, h => by
    simp at h
    exact absurd (by rw [h.1]; simp) hv
  | a :: w, [], x, y, hw, _, h => by
    simp at h
    exact absurd (by rw [h.1]; simp) hw
  | a :: w, b :: v, x, y, hw, hv, h => by
    simp only [List.cons_append, List.cons.injEq] at h
    have ih := cut_unique (w := w) (v := v) (fun hh => hw (List.mem_cons_of_mem _ hh)) (fun hh => hv (List.mem_cons_of_mem _ hh)) h.2
    exact ⟨by rw [h.1, ih.1], ih.2⟩
theorem split_unique {c : UInt8} : ∀ {ws vs : List (List UInt8)} {l : List UInt8}, IsSplit c l ws → IsSplit c l vs → ws = vs
  | [], _, _, h, _ => absurd rfl h.1
  | _, [], _, _, h => absurd rfl h.1
  | [w], [v], l, h, k => by
    have e1 : w = l := h.2.1
    have e2 : v = l := k.2.1
    rw [e1, e2]
  | [w], v :: x :: r, l, h, k => by
    have e1 : w = l := h.2.1
    have e2 : v ++ c :: joinC c (x :: r) = l := k.2.1
    exact absurd (by rw [e1, ← e2]; simp) (h.2.2 w (by simp))
  | w :: x :: r, [v], l, h, k => by
    have e1 : v = l := k.2.1
    have e2 : w ++ c :: joinC c (x :: r) = l := h.2.1
    exact absurd (by rw [e1, ← e2]; simp) (k.2.2 v (by simp))
  | w :: x :: r, v :: y :: q, l, h, k => by
    have e1 : w ++ c :: joinC c (x :: r) = l := h.2.1
    have e2 : v ++ c :: joinC c (y :: q) = l := k.2.1
    obtain ⟨h1, h2⟩ := cut_unique (h.2.2 w (by simp)) (k.2.2 v (by simp)) (e1.trans e2.symm)
    have ih := split_unique (ws := x :: r) (vs := y :: q) (l := joinC c (x :: r)) ⟨by simp, rfl, fun z hz => h.2.2 z (List.mem_cons_of_mem _ hz)⟩ ⟨by simp, h2.symm, fun z hz => k.2.2 z (List.mem_cons_of_mem _ hz)⟩
    rw [h1, ih]
/-- The words so far, and the one under way, at the beginning. -/
theorem split_start (c : UInt8) : IsSplit c [] ([] ++ [[]]) := ⟨by simp, rfl, fun w hw => by simp at hw; rw [hw]; simp⟩
/-- One byte more: the byte itself. -/
theorem split_at {c : UInt8} {l : List UInt8} {ws : List (List UInt8)} {cur : List UInt8} (h : IsSplit c l (ws ++ [cur])) : IsSplit c (l ++ [c]) ((ws ++ [cur]) ++ [[]]) := by
  refine ⟨by simp, ?_, fun w hw => ?_⟩
  · rw [joinC_snoc c [] (by simp), h.2.1]
  · rcases List.mem_append.1 hw with h' | h'
    · exact h.2.2 w h'
    · simp at h'; rw [h']; simp
/-- One byte more: another one. -/
theorem split_on {c b : UInt8} (hb : b ≠ c) {l : List UInt8} {ws : List (List UInt8)} {cur : List UInt8} (h : IsSplit c l (ws ++ [cur])) : IsSplit c (l ++ [b]) (ws ++ [cur ++ [b]]) := by
  refine ⟨by simp, ?_, fun w hw => ?_⟩
  · rw [joinC_grow, h.2.1]
  · rcases List.mem_append.1 hw with h' | h'
    · exact h.2.2 w (List.mem_append_left _ h')
    · simp at h'; rw [h']
      intro hc
      rcases List.mem_append.1 hc with h2 | h2
      · exact h.2.2 cur (by simp) h2
      · simp at h2; exact hb h2.symm
end Go.Proofs.YteicnjemaemijaaGreatDoor
