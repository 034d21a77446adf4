/- The plain law of the library's sort of any order: heaps, partitions, what is left to sort. Rows as functions of their index. No condition. -/
import Derived.Test.YthpgnlmkgllonaaStableMath
namespace Go.Proofs.SB
variable {α : Type} {lt : α → α → Bool}
/-- Nothing before the range is behind anything in it. -/
def Left (lt : α → α → Bool) (d : Nat → α) (a b : Nat) : Prop := a = 0 ∨ ∀ k, a ≤ k → k < b → lt (d k) (d (a - 1)) = false
theorem Left.zero (d : Nat → α) (b : Nat) : Left lt d 0 b := .inl rfl
theorem Left.mv {d e : Nat → α} {a b : Nat} (h : Left lt d a b) (m : Mv a b d e) : Left lt e a b := by
  rcases h with h | h
  · exact .inl h
  · by_cases ha : a = 0
    · exact .inl ha
    · refine .inr fun k k1 k2 => ?_
      obtain ⟨j, j1, j2, ej⟩ := m.mem k1 k2
      rw [ej, m.out (k := a - 1) (by omega)]
      exact h j j1 j2
theorem Left.sub {d : Nat → α} {a b b' : Nat} (h : Left lt d a b) (hb : b' ≤ b) : Left lt d a b' := h.imp id fun h k k1 k2 => h k k1 (by omega)
/-- A range divided at m. -/
def Parts (lt : α → α → Bool) (d : Nat → α) (a m b : Nat) : Prop := (∀ k, a ≤ k → k < m → lt (d m) (d k) = false) ∧ ∀ k, m < k → k < b → lt (d k) (d m) = false
theorem Parts.left {d : Nat → α} {a m b : Nat} (h : Parts lt d a m b) : Left lt d (m + 1) b := .inr fun k k1 k2 => by
  rw [Nat.add_sub_cancel]; exact h.2 k (by omega) k2
/-- Both sides moved in themselves. -/
theorem Parts.mvL {d e : Nat → α} {a m b : Nat} (h : Parts lt d a m b) (g : Mv a m d e) : Parts lt e a m b := by
  refine ⟨fun k k1 k2 => ?_, fun k k1 k2 => ?_⟩
  · obtain ⟨j, j1, j2, ej⟩ := g.mem k1 k2
    rw [ej, g.out (k := m) (by omega)]; exact h.1 j j1 j2
  · rw [g.out (k := k) (by omega), g.out (k := m) (by omega)]; exact h.2 k k1 k2
theorem Parts.mvR {d e : Nat → α} {a m b : Nat} (h : Parts lt d a m b) (g : Mv (m + 1) b d e) : Parts lt e a m b := by
  refine ⟨fun k k1 k2 => ?_, fun k k1 k2 => ?_⟩
  · rw [g.out (k := k) (by omega), g.out (k := m) (by omega)]; exact h.1 k k1 k2
  · obtain ⟨j, j1, j2, ej⟩ := g.mem (show m + 1 ≤ k by omega) k2
    rw [ej, g.out (k := m) (by omega)]; exact h.2 j (by omega) j2
theorem Parts.sorted (O : Ord lt) {d : Nat → α} {a m b : Nat} (h : Parts lt d a m b) (am : a ≤ m) (mb : m < b) (h1 : Srt lt d a m) (h2 : Srt lt d (m + 1) b) : Srt lt d a b := by
  intro i j i1 ij jb
  by_cases hj : j < m
  · exact h1 i j i1 ij hj
  · by_cases hj2 : j = m
    · subst hj2; exact h.1 i i1 ij
    · by_cases hi : m < i
      · exact h2 i j (by omega) ij jb
      · by_cases hi2 : i = m
        · subst hi2; exact h.2 j (by omega) jb
        · exact O.trans _ _ _ (h.1 i i1 (by omega)) (h.2 j (by omega) jb)
/-- What is left: once the range a, b is in order, the whole is. -/
def Todo (lt : α → α → Bool) (a0 b0 a b : Nat) (d : Nat → α) : Prop := a0 ≤ a ∧ b ≤ b0 ∧ ∀ e, Mv a b d e → Srt lt e a b → Srt lt e a0 b0
theorem Todo.all (a b : Nat) (d : Nat → α) : Todo lt a b a b d := ⟨Nat.le_refl _, Nat.le_refl _, fun _ _ h => h⟩
theorem Todo.mv {a0 b0 a b : Nat} {d e : Nat → α} (h : Todo lt a0 b0 a b d) (m : Mv a b d e) : Todo lt a0 b0 a b e := ⟨h.1, h.2.1, fun f g s => h.2.2 f (m.trans g) s⟩
/-- The left side sorted: the right one is left. -/
theorem Todo.right (O : Ord lt) {a0 b0 a m b : Nat} {d : Nat → α} (h : Todo lt a0 b0 a b d) (p : Parts lt d a m b) (am : a ≤ m) (mb : m < b) (s : Srt lt d a m) : Todo lt a0 b0 (m + 1) b d :=
  ⟨by have := h.1; omega, h.2.1, fun e g s2 => h.2.2 e (g.mono (by omega) (Nat.le_refl _)) ((p.mvR g).sorted O am mb (s.congr fun k k1 k2 => g.out (by omega)) s2)⟩
theorem Todo.left (O : Ord lt) {a0 b0 a m b : Nat} {d : Nat → α} (h : Todo lt a0 b0 a b d) (p : Parts lt d a m b) (am : a ≤ m) (mb : m < b) (s : Srt lt d (m + 1) b) : Todo lt a0 b0 a m d :=
  ⟨h.1, by have := h.2.1; omega, fun e g s2 => h.2.2 e (g.mono (Nat.le_refl _) (by omega)) ((p.mvL g).sorted O am mb s2 (s.congr fun k k1 k2 => g.out (by omega)))⟩
/-- What is not behind the pivot, where the pivot is not behind what lies before the range: all alike. -/
def Alike (lt : α → α → Bool) (d : Nat → α) (a m b : Nat) (p : α) : Prop := (∀ k, a ≤ k → k < m → lt p (d k) = false) ∧ ∀ k, m ≤ k → k < b → lt p (d k) = true
theorem Alike.left (O : Ord lt) {d : Nat → α} {a m b : Nat} {p : α} (h : Alike lt d a m b p) (am : a < m) : Left lt d m b := .inr fun k k1 k2 => by
  have h1 := O.asym _ _ (h.2 k k1 k2)
  exact O.trans _ _ _ (h.1 (m - 1) (by omega) (by omega)) h1
theorem Todo.alike (O : Ord lt) {a0 b0 a m b : Nat} {d : Nat → α} {p : α} (h : Todo lt a0 b0 a b d) (q : Alike lt d a m b p) (hl : ∀ k, a ≤ k → k < b → lt (d k) p = false) (am : a < m) (mb : m ≤ b) : Todo lt a0 b0 m b d := by
  refine ⟨by have := h.1; omega, h.2.1, fun e g s => h.2.2 e (g.mono (by omega) (Nat.le_refl _)) ?_⟩
  refine srt_join (m := m) (fun i j i1 ij jm => ?_) s (fun x y x1 x2 y1 y2 => ?_)
  · rw [g.out (k := i) (by omega), g.out (k := j) (by omega)]
    exact O.trans _ _ _ (q.1 i i1 (by omega)) (hl j (by omega) (by omega))
  · obtain ⟨j, j1, j2, ej⟩ := g.mem y1 y2
    rw [ej, g.out (k := x) (by omega)]
    exact O.trans _ _ _ (q.1 x x1 x2) (hl j (by omega) j2)
/-- A heap from lo on: no child is behind its parent. -/
def Heap (lt : α → α → Bool) (d : Nat → α) (f lo hi : Nat) : Prop := ∀ p c, lo ≤ p → (c = 2 * p + 1 ∨ c = 2 * p + 2) → c < hi → lt (d (f + p)) (d (f + c)) = false
/-- A heap but for the place r, whose children are not behind its parent. -/
def HeapBut (lt : α → α → Bool) (d : Nat → α) (f lo hi r : Nat) : Prop := (∀ p c, lo ≤ p → p ≠ r → (c = 2 * p + 1 ∨ c = 2 * p + 2) → c < hi → lt (d (f + p)) (d (f + c)) = false) ∧
  ∀ q c, lo ≤ q → (r = 2 * q + 1 ∨ r = 2 * q + 2) → (c = 2 * r + 1 ∨ c = 2 * r + 2) → c < hi → lt (d (f + q)) (d (f + c)) = false
theorem Heap.but {d : Nat → α} {f lo hi : Nat} (h : Heap lt d f (lo + 1) hi) : HeapBut lt d f lo hi lo :=
  ⟨fun p c hp hr hc hi => h p c (by omega) hc hi, fun q c hq hr => by omega⟩
theorem HeapBut.done {d : Nat → α} {f lo hi r : Nat} (h : HeapBut lt d f lo hi r) (hr : ∀ c, (c = 2 * r + 1 ∨ c = 2 * r + 2) → c < hi → lt (d (f + r)) (d (f + c)) = false) : Heap lt d f lo hi := fun p c hp hc hi => by
  by_cases e : p = r
  · subst e; exact hr c hc hi
  · exact h.1 p c hp e hc hi
/-- The greater child taken up. -/
theorem HeapBut.down (O : Ord lt) {d : Nat → α} {f lo hi r c : Nat} (h : HeapBut lt d f lo hi r) (hl : lo ≤ r) (hc : c = 2 * r + 1 ∨ c = 2 * r + 2) (hi' : c < hi) (hg : ∀ x, (x = 2 * r + 1 ∨ x = 2 * r + 2) → x < hi → x ≠ c → lt (d (f + c)) (d (f + x)) = false) (hx : lt (d (f + r)) (d (f + c)) = true) :
    HeapBut lt (swp d (f + r) (f + c)) f lo hi c := by
  have sr : swp d (f + r) (f + c) (f + r) = d (f + c) := by unfold swp; rw [if_pos rfl]
  have sc : swp d (f + r) (f + c) (f + c) = d (f + r) := by unfold swp; rw [if_neg (by omega), if_pos rfl]
  have so : ∀ x, x ≠ r → x ≠ c → swp d (f + r) (f + c) (f + x) = d (f + x) := fun x h1 h2 => by unfold swp; rw [if_neg (by omega), if_neg (by omega)]
  refine ⟨fun p x hp hpc hx1 hx2 => ?_, fun q x hq hq2 hx1 hx2 => ?_⟩
  · by_cases e : p = r
    · subst e
      rw [sr]
      by_cases e2 : x = c
      · subst e2; rw [sc]; exact O.asym _ _ hx
      · rw [so x (by omega) e2]; exact hg x hx1 hx2 e2
    · rw [so p e hpc]
      by_cases e2 : x = r
      · subst e2
        rw [sr]
        exact h.2 p c hp hx1 hc hi'
      · by_cases e3 : x = c
        · omega
        · rw [so x e2 e3]; exact h.1 p x hp e hx1 hx2
  · have e : q = r := by omega
    subst e
    rw [sr, so x (by omega) (by omega)]
    exact h.1 c x (by omega) (by omega) hx1 hx2
theorem Heap.sub {d : Nat → α} {f lo hi hi' : Nat} (h : Heap lt d f lo hi) (hh : hi' ≤ hi) : Heap lt d f lo hi' := fun p c hp hc hi => h p c hp hc (by omega)
theorem Heap.from_half {d : Nat → α} {f lo hi : Nat} (h : hi ≤ 2 * lo + 1) : Heap lt d f lo hi := fun p c hp hc hi => by omega
/-- The top of a heap is not behind any. -/
theorem Heap.top (O : Ord lt) (irr : ∀ x, lt x x = false) {d : Nat → α} {f hi : Nat} (h : Heap lt d f 0 hi) : ∀ n k, k ≤ n → k < hi → lt (d (f + 0)) (d (f + k)) = false
  | 0, k, h1, h2 => by obtain rfl : k = 0 := by omega
                       exact irr _
  | n + 1, k, h1, h2 => by
    by_cases hk : k = 0
    · subst hk; exact irr _
    · have hp := Heap.top O irr h n ((k - 1) / 2) (by omega) (by omega)
      exact O.trans _ _ _ (h ((k - 1) / 2) k (Nat.zero_le _) (by omega) h2) hp
/-- The tail of a heap sort: from i on in order, and nothing of the heap is behind it. -/
def Tail (lt : α → α → Bool) (d : Nat → α) (f n i : Nat) : Prop := Srt lt d (f + i) (f + n) ∧ ∀ x y, x < i → i ≤ y → y < n → lt (d (f + y)) (d (f + x)) = false
theorem Tail.mv {d e : Nat → α} {f n i : Nat} (h : Tail lt d f n i) (m : Mv f (f + i) d e) : Tail lt e f n i := by
  refine ⟨h.1.congr fun k k1 k2 => m.out (by omega), fun x y x1 y1 y2 => ?_⟩
  obtain ⟨j, j1, j2, ej⟩ := m.mem (show f ≤ f + x by omega) (show f + x < f + i by omega)
  rw [ej, m.out (k := f + y) (by omega)]
  have := h.2 (j - f) y (by omega) y1 y2
  rwa [show f + (j - f) = j by omega] at this
/-- The top laid behind the heap. -/
theorem Tail.step (O : Ord lt) (irr : ∀ x, lt x x = false) {d : Nat → α} {f n i : Nat} (h : Tail lt d f n (i + 1)) (hp : Heap lt d f 0 (i + 1)) (hn : i < n) : Tail lt (swp d (f + 0) (f + i)) f n i := by
  have top := fun k hk => Heap.top O irr hp k k (Nat.le_refl _) hk
  have si : swp d (f + 0) (f + i) (f + i) = d (f + 0) := by
    unfold swp; by_cases e : i = 0
    · subst e; rw [if_pos rfl]
    · rw [if_neg (by omega), if_pos rfl]
  have so : ∀ y, i < y → swp d (f + 0) (f + i) (f + y) = d (f + y) := fun y hy => by unfold swp; rw [if_neg (by omega), if_neg (by omega)]
  have sx : ∀ x, x ≤ i → ∃ x', x' ≤ i ∧ swp d (f + 0) (f + i) (f + x) = d (f + x') := fun x hx => by
    unfold swp
    by_cases e : f + x = f + 0
    · rw [if_pos e]; exact ⟨i, Nat.le_refl _, rfl⟩
    · rw [if_neg e]
      by_cases e2 : f + x = f + i
      · rw [if_pos e2]; exact ⟨0, Nat.zero_le _, rfl⟩
      · rw [if_neg e2]; exact ⟨x, hx, rfl⟩
  refine ⟨fun a b a1 ab bn => ?_, fun x y x1 y1 y2 => ?_⟩
  · obtain ⟨y, rfl⟩ : ∃ y, b = f + y := ⟨b - f, by omega⟩
    rw [so y (by omega)]
    by_cases e : a = f + i
    · subst e; rw [si]; exact h.2 0 y (by omega) (by omega) (by omega)
    · obtain ⟨z, rfl⟩ : ∃ z, a = f + z := ⟨a - f, by omega⟩
      rw [so z (by omega)]
      exact h.1 (f + z) (f + y) (by omega) ab bn
  · obtain ⟨x', hx', ex⟩ := sx x (by omega)
    rw [ex]
    by_cases e : y = i
    · subst e; rw [si]; exact top x' (by omega)
    · rw [so y (by omega)]; exact h.2 x' y (by omega) (by omega) y2
theorem swp_mv_in {d : Nat → α} {f n i j : Nat} (hi : i < n) (hj : j < n) : Mv f (f + n) d (swp d (f + i) (f + j)) := Mv.swp d ⟨by omega, by omega⟩ ⟨by omega, by omega⟩
end Go.Proofs.SB
