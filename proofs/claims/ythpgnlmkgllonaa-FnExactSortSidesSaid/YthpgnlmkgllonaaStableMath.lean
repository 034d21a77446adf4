/- The stable sort's plain law: rows as functions of their index; blocks sorted by insertion and merged by turning parts of them. No condition. -/
namespace Go.Proofs.SB
variable {α : Type}
/-- Two places exchanged. -/
def swp (d : Nat → α) (i j : Nat) : Nat → α := fun k => if k = i then d j else if k = j then d i else d k
/-- The places of a range have only been moved. -/
def Mv (a b : Nat) (d e : Nat → α) : Prop := ∃ σ τ : Nat → Nat, (∀ k, σ (τ k) = k) ∧ (∀ k, τ (σ k) = k) ∧ (∀ k, a ≤ k → k < b → a ≤ σ k ∧ σ k < b) ∧ (∀ k, ¬ (a ≤ k ∧ k < b) → σ k = k) ∧ ∀ k, e k = d (σ k)
theorem Mv.refl (a b : Nat) (d : Nat → α) : Mv a b d d := ⟨id, id, fun _ => rfl, fun _ => rfl, fun _ h1 h2 => ⟨h1, h2⟩, fun _ _ => rfl, fun _ => rfl⟩
theorem Mv.trans {a b : Nat} {d e f : Nat → α} (h : Mv a b d e) (g : Mv a b e f) : Mv a b d f := by
  obtain ⟨s, t, h1, h2, h3, h4, h5⟩ := h
  obtain ⟨s', t', g1, g2, g3, g4, g5⟩ := g
  refine ⟨fun k => s (s' k), fun k => t' (t k), fun k => by simp [g1, h1], fun k => by simp [h2, g2], fun k k1 k2 => ?_, fun k hk => ?_, fun k => by rw [g5, h5]⟩
  · obtain ⟨p, q⟩ := g3 k k1 k2; exact h3 _ p q
  · show s (s' k) = k
    rw [g4 k hk, h4 k hk]
theorem Mv.mono {a b a' b' : Nat} {d e : Nat → α} (h : Mv a b d e) (ha : a' ≤ a) (hb : b ≤ b') : Mv a' b' d e := by
  obtain ⟨s, t, h1, h2, h3, h4, h5⟩ := h
  refine ⟨s, t, h1, h2, fun k k1 k2 => ?_, fun k hk => h4 k (by omega), h5⟩
  by_cases hk : a ≤ k ∧ k < b
  · have := h3 k hk.1 hk.2; omega
  · rw [h4 k hk]; exact ⟨k1, k2⟩
theorem Mv.swp (d : Nat → α) {a b i j : Nat} (hi : a ≤ i ∧ i < b) (hj : a ≤ j ∧ j < b) : Mv a b d (SB.swp d i j) := by
  have inv : ∀ k, (if (if k = i then j else if k = j then i else k) = i then j else if (if k = i then j else if k = j then i else k) = j then i else (if k = i then j else if k = j then i else k)) = k := by
    intro k
    by_cases h1 : k = i
    · subst h1
      by_cases h2 : j = k
      · subst h2; simp
      · simp [h2]
    · by_cases h2 : k = j
      · subst h2; simp [h1]
      · simp [h1, h2]
  refine ⟨fun k => if k = i then j else if k = j then i else k, fun k => if k = i then j else if k = j then i else k, inv, inv, fun k k1 k2 => ?_, fun k hk => ?_, fun k => ?_⟩
  · simp only; split
    · exact hj
    · split
      · exact hi
      · exact ⟨k1, k2⟩
  · have e1 : k ≠ i := fun e => hk (e ▸ hi)
    have e2 : k ≠ j := fun e => hk (e ▸ hj)
    simp [e1, e2]
  · simp only [SB.swp]
    split
    · rfl
    · split <;> rfl
theorem Mv.out {a b : Nat} {d e : Nat → α} (h : Mv a b d e) {k : Nat} (hk : ¬ (a ≤ k ∧ k < b)) : e k = d k := by
  obtain ⟨s, t, h1, h2, h3, h4, h5⟩ := h
  rw [h5, h4 k hk]
theorem Mv.mem {a b : Nat} {d e : Nat → α} (h : Mv a b d e) {k : Nat} (h1 : a ≤ k) (h2 : k < b) : ∃ j, a ≤ j ∧ j < b ∧ e k = d j := by
  obtain ⟨s, t, _, _, h3, _, h5⟩ := h
  exact ⟨s k, (h3 k h1 h2).1, (h3 k h1 h2).2, h5 k⟩
theorem Mv.mem' {a b : Nat} {d e : Nat → α} (h : Mv a b d e) {k : Nat} (k1 : a ≤ k) (k2 : k < b) : ∃ j, a ≤ j ∧ j < b ∧ d k = e j := by
  obtain ⟨s, t, h1, h2, h3, h4, h5⟩ := h
  refine ⟨t k, ?_⟩
  have hr : a ≤ t k ∧ t k < b := by
    by_cases hk : a ≤ t k ∧ t k < b
    · exact hk
    · have := h4 _ hk; rw [h1] at this; rw [← this] at hk; exact absurd ⟨k1, k2⟩ hk
  exact ⟨hr.1, hr.2, by rw [h5, h1]⟩
theorem Mv.inj {a b : Nat} {d e : Nat → α} (h : Mv a b d e) (hd : ∀ i j, a ≤ i → i < b → a ≤ j → j < b → d i = d j → i = j) : ∀ i j, a ≤ i → i < b → a ≤ j → j < b → e i = e j → i = j := by
  obtain ⟨s, t, h1, h2, h3, h4, h5⟩ := h
  intro i j i1 i2 j1 j2 he
  rw [h5, h5] at he
  have p := h3 i i1 i2
  have q := h3 j j1 j2
  have := hd _ _ p.1 p.2 q.1 q.2 he
  rw [← h2 i, this, h2]
/-- A range is in order: nothing later is before something earlier. -/
def Srt (lt : α → α → Bool) (d : Nat → α) (a b : Nat) : Prop := ∀ i j, a ≤ i → i < j → j < b → lt (d j) (d i) = false
theorem Srt.sub {lt : α → α → Bool} {d : Nat → α} {a b a' b' : Nat} (h : Srt lt d a b) (ha : a ≤ a') (hb : b' ≤ b) : Srt lt d a' b' := fun i j h1 h2 h3 => h i j (by omega) h2 (by omega)
theorem Srt.one (lt : α → α → Bool) (d : Nat → α) {a b : Nat} (h : b ≤ a + 1) : Srt lt d a b := fun i j h1 h2 h3 => by omega
theorem Srt.congr {lt : α → α → Bool} {d e : Nat → α} {a b : Nat} (h : Srt lt d a b) (he : ∀ k, a ≤ k → k < b → e k = d k) : Srt lt e a b := fun i j h1 h2 h3 => by rw [he i h1 (by omega), he j (by omega) h3]; exact h i j h1 h2 h3
/-- What the walk asks of the order. -/
structure Ord (lt : α → α → Bool) : Prop where
  asym : ∀ x y, lt x y = true → lt y x = false
  trans : ∀ x y z, lt y x = false → lt z y = false → lt z x = false
/-- The range from a to b, of which the part from m on has been laid first. -/
def Rot (a m b : Nat) (d : Nat → α) : Nat → α := fun k => if a ≤ k ∧ k < b then (if k < a + (b - m) then d (k + (m - a)) else d (k - (b - m))) else d k
/-- Two ranges of n exchanged. -/
def SwR (a b n : Nat) (d : Nat → α) : Nat → α := fun k => if a ≤ k ∧ k < a + n then d (k - a + b) else if b ≤ k ∧ k < b + n then d (k - b + a) else d k
theorem SwR.zero (a b : Nat) (d : Nat → α) : SwR a b 0 d = d := by
  funext k; unfold SwR; rw [if_neg (by omega), if_neg (by omega)]
theorem SwR.succ {a b n : Nat} (d : Nat → α) (h : a + n < b) : swp (SwR a b n d) (a + n) (b + n) = SwR a b (n + 1) d := by
  funext k
  unfold swp SwR
  ((repeat' split) <;> first | rfl | (exfalso; omega) | (congr 1; omega))
theorem Rot.left {m i j : Nat} (d : Nat → α) (hi : i ≤ m) (hij : j < i) : Rot (m - (i - j)) m (m + j) (SwR (m - i) m j d) = Rot (m - i) m (m + j) d := by
  funext k
  unfold Rot SwR
  ((repeat' split) <;> first | rfl | (exfalso; omega) | (congr 1; omega))
theorem Rot.right {m i j : Nat} (d : Nat → α) (hi : i ≤ m) (hij : i < j) : Rot (m - i) m (m + (j - i)) (SwR (m - i) (m + (j - i)) i d) = Rot (m - i) m (m + j) d := by
  funext k
  unfold Rot SwR
  ((repeat' split) <;> first | rfl | (exfalso; omega) | (congr 1; omega))
theorem Rot.same {m i : Nat} (d : Nat → α) (hi : i ≤ m) : SwR (m - i) m i d = Rot (m - i) m (m + i) d := by
  funext k
  unfold Rot SwR
  ((repeat' split) <;> first | rfl | (exfalso; omega) | (congr 1; omega))
theorem SwR.mv {a b n : Nat} (d : Nat → α) (h : a + n ≤ b) : Mv a (b + n) d (SwR a b n d) := by
  induction n with
  | zero => rw [SwR.zero]; exact Mv.refl _ _ _
  | succ n ih =>
    rw [← SwR.succ d (by omega)]
    exact ((ih (by omega)).mono (by omega) (by omega)).trans (Mv.swp _ (by omega) (by omega))
theorem Rot.mv_aux (d : Nat → α) : ∀ (n i j m : Nat), i + j ≤ n → 0 < i → 0 < j → i ≤ m → Mv (m - i) (m + j) d (Rot (m - i) m (m + j) d)
  | 0, i, j, m, h, hi, hj, him => by omega
  | n + 1, i, j, m, h, hi, hj, him => by
    rcases Nat.lt_trichotomy i j with hl | he | hg
    · rw [← Rot.right d him hl]
      have h1 : Mv (m - i) (m + j) d (SwR (m - i) (m + (j - i)) i d) := (SwR.mv d (by omega)).mono (by omega) (by omega)
      exact h1.trans ((Rot.mv_aux _ n i (j - i) m (by omega) hi (by omega) him).mono (by omega) (by omega))
    · subst he
      rw [← Rot.same d him]
      exact SwR.mv d (by omega)
    · rw [← Rot.left d him hg]
      have h1 : Mv (m - i) (m + j) d (SwR (m - i) m j d) := (SwR.mv d (by omega)).mono (by omega) (by omega)
      exact h1.trans ((Rot.mv_aux _ n (i - j) j m (by omega) (by omega) hj (by omega)).mono (by omega) (by omega))
theorem Rot.mv (d : Nat → α) {a m b : Nat} (h1 : a < m) (h2 : m < b) : Mv a b d (Rot a m b d) := by
  have := Rot.mv_aux d _ (m - a) (b - m) m (Nat.le_refl _) (by omega) (by omega) (by omega)
  rwa [show m - (m - a) = a by omega, show m + (b - m) = b by omega] at this
/-- One element moved up to the place k. -/
def Up (a k : Nat) (d : Nat → α) : Nat → α := fun x => if a ≤ x ∧ x < k then d (x + 1) else if x = k then d a else d x
theorem Up.zero (a : Nat) (d : Nat → α) : Up a a d = d := by
  funext x; unfold Up; split
  · omega
  · split
    · rename_i h; rw [h]
    · rfl
theorem Up.succ {a k : Nat} (d : Nat → α) (h : a ≤ k) : swp (Up a k d) k (k + 1) = Up a (k + 1) d := by
  funext x; unfold swp Up; ((repeat' split) <;> first | rfl | (exfalso; omega) | (congr 1; omega))
theorem Up.mv {a k b : Nat} (d : Nat → α) (h : a ≤ k) (hb : k < b) : Mv a b d (Up a k d) := by
  obtain ⟨n, rfl⟩ : ∃ n, k = a + n := ⟨k - a, by omega⟩
  induction n with
  | zero => rw [Nat.add_zero, Up.zero]; exact Mv.refl _ _ _
  | succ n ih =>
    rw [← Nat.add_assoc, ← Up.succ d (by omega)]
    exact (ih (by omega) (by omega)).trans (Mv.swp _ (by omega) (by omega))
/-- One element moved down to the place k. -/
def Dn (k m : Nat) (d : Nat → α) : Nat → α := fun x => if k < x ∧ x ≤ m then d (x - 1) else if x = k then d m else d x
theorem Dn.zero (m : Nat) (d : Nat → α) : Dn m m d = d := by
  funext x; unfold Dn; split
  · omega
  · split
    · rename_i h; rw [h]
    · rfl
theorem Dn.succ {k m : Nat} (d : Nat → α) (h : k + 1 ≤ m) : swp (Dn (k + 1) m d) (k + 1) k = Dn k m d := by
  funext x; unfold swp Dn; ((repeat' split) <;> first | rfl | (exfalso; omega) | (congr 1; omega))
theorem Dn.mv {k m a b : Nat} (d : Nat → α) (hk : k ≤ m) (ha : a ≤ k) (hb : m < b) : Mv a b d (Dn k m d) := by
  obtain ⟨n, rfl⟩ : ∃ n, m = k + n := ⟨m - k, by omega⟩
  induction n generalizing k with
  | zero => rw [Nat.add_zero, Dn.zero]; exact Mv.refl _ _ _
  | succ n ih =>
    rw [← Dn.succ d (by omega), show k + (n + 1) = k + 1 + n by omega]
    exact (ih (by omega) (by omega) (by omega)).trans (Mv.swp _ (by omega) (by omega))
variable {lt : α → α → Bool}
/-- The first of a range put where the search has found. -/
theorem srt_up (O : Ord lt) {d : Nat → α} {a b i : Nat} (hs : Srt lt d (a + 1) b) (h1 : a + 1 ≤ i) (h2 : i ≤ b) (hl : a + 1 < i → lt (d (i - 1)) (d a) = true) (hr : i < b → lt (d i) (d a) = false) : Srt lt (Up a (i - 1) d) a b := by
  have L : ∀ x, a < x → x < i → lt (d a) (d x) = false := by
    intro x x1 x2
    have h := O.asym _ _ (hl (by omega))
    by_cases e : x = i - 1
    · rw [e]; exact h
    · exact O.trans _ _ _ (hs x (i - 1) (by omega) (by omega) (by omega)) h
  have R : ∀ x, i ≤ x → x < b → lt (d x) (d a) = false := by
    intro x x1 x2
    by_cases e : x = i
    · rw [e]; exact hr (by omega)
    · exact O.trans _ _ _ (hr (by omega)) (hs i x (by omega) (by omega) x2)
  intro x y hx hxy hy
  unfold Up
  (repeat' split) <;> first | (exfalso; omega) | exact hs _ _ (by omega) (by omega) (by omega) | exact L _ (by omega) (by omega) | exact R _ (by omega) (by omega)
/-- The last of a range put where the search has found. -/
theorem srt_dn (O : Ord lt) {d : Nat → α} {a m i : Nat} (hs : Srt lt d a m) (h1 : a ≤ i) (h2 : i ≤ m) (hl : a < i → lt (d m) (d (i - 1)) = false) (hr : i < m → lt (d m) (d i) = true) : Srt lt (Dn i m d) a (m + 1) := by
  have L : ∀ x, a ≤ x → x < i → lt (d m) (d x) = false := by
    intro x x1 x2
    by_cases e : x = i - 1
    · rw [e]; exact hl (by omega)
    · exact O.trans _ _ _ (hs x (i - 1) (by omega) (by omega) (by omega)) (hl (by omega))
  have R : ∀ x, i ≤ x → x < m → lt (d x) (d m) = false := by
    intro x x1 x2
    have h := O.asym _ _ (hr (by omega))
    by_cases e : x = i
    · rw [e]; exact h
    · exact O.trans _ _ _ h (hs i x (by omega) (by omega) x2)
  intro x y hx hxy hy
  unfold Dn
  (repeat' split) <;> first | (exfalso; omega) | exact hs _ _ (by omega) (by omega) (by omega) | exact L _ (by omega) (by omega) | exact R _ (by omega) (by omega)
/-- What the merge's search has found: the parts fit. -/
structure Cut (lt : α → α → Bool) (d : Nat → α) (a m b s e : Nat) : Prop where
  as : a ≤ s
  sm : s ≤ m
  me : m ≤ e
  eb : e ≤ b
  low : a < s → e < b → lt (d e) (d (s - 1)) = false
  high : s < m → m < e → lt (d (e - 1)) (d s) = true
theorem Cut.sides (O : Ord lt) {d : Nat → α} {a m b s e : Nat} (c : Cut lt d a m b s e) (h1 : Srt lt d a m) (h2 : Srt lt d m b) :
    ∀ x y, ((a ≤ x ∧ x < s) ∨ (m ≤ x ∧ x < e)) → ((s ≤ y ∧ y < m) ∨ (e ≤ y ∧ y < b)) → lt (d y) (d x) = false := by
  obtain ⟨q1, q2, q3, q4, q5, q6⟩ := c
  intro x y hx hy
  rcases hx with hx | hx <;> rcases hy with hy | hy
  · exact h1 x y (by omega) (by omega) (by omega)
  · have h := q5 (by omega) (by omega)
    have h' : lt (d e) (d x) = false := by
      by_cases e1 : x = s - 1
      · rw [e1]; exact h
      · exact O.trans _ _ _ (h1 x (s - 1) (by omega) (by omega) (by omega)) h
    by_cases e2 : y = e
    · rw [e2]; exact h'
    · exact O.trans _ _ _ h' (h2 e y (by omega) (by omega) (by omega))
  · have h := O.asym _ _ (q6 (by omega) (by omega))
    have h' : lt (d s) (d x) = false := by
      by_cases e1 : x = e - 1
      · rw [e1]; exact h
      · exact O.trans _ _ _ (h2 x (e - 1) (by omega) (by omega) (by omega)) h
    by_cases e2 : y = s
    · rw [e2]; exact h'
    · exact O.trans _ _ _ h' (h1 s y (by omega) (by omega) (by omega))
  · exact h2 x y (by omega) (by omega) (by omega)
/-- The row after the turn: both halves' parts are in order, and the halves fit. -/
theorem rot_parts {d : Nat → α} {a m b s e : Nat} (q2 : s ≤ m) (q3 : m ≤ e) (q4 : e ≤ b) (q1 : a ≤ s) (h1 : Srt lt d a m) (h2 : Srt lt d m b) :
    Srt lt (Rot s m e d) a s ∧ Srt lt (Rot s m e d) s (s + (e - m)) ∧ Srt lt (Rot s m e d) (s + (e - m)) e ∧ Srt lt (Rot s m e d) e b := by
  refine ⟨?_, ?_, ?_, ?_⟩
  · exact (h1.sub (Nat.le_refl _) q2).congr fun k k1 k2 => by unfold Rot; rw [if_neg (by omega)]
  · intro i j i1 i2 i3
    unfold Rot
    rw [if_pos (by omega), if_pos (by omega), if_pos (by omega), if_pos (by omega)]
    exact h2 _ _ (by omega) (by omega) (by omega)
  · intro i j i1 i2 i3
    unfold Rot
    rw [if_pos (by omega), if_neg (by omega), if_pos (by omega), if_neg (by omega)]
    exact h1 _ _ (by omega) (by omega) (by omega)
  · exact (h2.sub q3 (Nat.le_refl _)).congr fun k k1 k2 => by unfold Rot; rw [if_neg (by omega)]
theorem rot_sides (O : Ord lt) {d : Nat → α} {a m b s e : Nat} (c : Cut lt d a m b s e) (h1 : Srt lt d a m) (h2 : Srt lt d m b) :
    ∀ x y, a ≤ x → x < s + (e - m) → s + (e - m) ≤ y → y < b → lt (Rot s m e d y) (Rot s m e d x) = false := by
  have S := c.sides O h1 h2
  obtain ⟨q1, q2, q3, q4, q5, q6⟩ := c
  intro x y hx1 hx2 hy1 hy2
  have ex : ∃ x', Rot s m e d x = d x' ∧ ((a ≤ x' ∧ x' < s) ∨ (m ≤ x' ∧ x' < e)) := by
    unfold Rot
    by_cases h : s ≤ x
    · exact ⟨x + (m - s), by rw [if_pos (by omega), if_pos (by omega)], by omega⟩
    · exact ⟨x, by rw [if_neg (by omega)], by omega⟩
  have ey : ∃ y', Rot s m e d y = d y' ∧ ((s ≤ y' ∧ y' < m) ∨ (e ≤ y' ∧ y' < b)) := by
    unfold Rot
    by_cases h : y < e
    · exact ⟨y - (e - m), by rw [if_pos (by omega), if_neg (by omega)], by omega⟩
    · exact ⟨y, by rw [if_neg (by omega)], by omega⟩
  obtain ⟨x', e1, p1⟩ := ex
  obtain ⟨y', e2, p2⟩ := ey
  rw [e1, e2]
  exact S _ _ p1 p2
/-- Two halves in order that fit are in order together. -/
theorem srt_join {d : Nat → α} {a m b : Nat} (h1 : Srt lt d a m) (h2 : Srt lt d m b) (hs : ∀ x y, a ≤ x → x < m → m ≤ y → y < b → lt (d y) (d x) = false) : Srt lt d a b := by
  intro i j i1 i2 i3
  by_cases hj : j < m
  · exact h1 i j i1 i2 hj
  · by_cases hi : i < m
    · exact hs i j i1 hi (by omega) i3
    · exact h2 i j (by omega) i2 i3
/-- Two halves that fit still fit when each has been moved in itself. -/
theorem fit_mv {d e f : Nat → α} {a m b : Nat} (g1 : Mv a m d e) (g2 : Mv m b e f) (hs : ∀ x y, a ≤ x → x < m → m ≤ y → y < b → lt (d y) (d x) = false) : ∀ x y, a ≤ x → x < m → m ≤ y → y < b → lt (f y) (f x) = false := by
  intro x y x1 x2 y1 y2
  rw [g2.out (k := x) (by omega)]
  obtain ⟨x', p1, p2, e1⟩ := g1.mem x1 x2
  obtain ⟨y', r1, r2, e2⟩ := g2.mem y1 y2
  rw [e1, e2, g1.out (k := y') (by omega)]
  exact hs _ _ p1 p2 r1 r2
theorem Rot.mv' (d : Nat → α) {a m b : Nat} (h1 : a ≤ m) (h2 : m ≤ b) : Mv a b d (Rot a m b d) := by
  by_cases e1 : a < m
  · by_cases e2 : m < b
    · exact Rot.mv d e1 e2
    · have e : Rot a m b d = d := by funext k; unfold Rot; ((repeat' split) <;> first | rfl | (exfalso; omega) | (congr 1; omega))
      rw [e]; exact Mv.refl _ _ _
  · have e : Rot a m b d = d := by funext k; unfold Rot; ((repeat' split) <;> first | rfl | (exfalso; omega) | (congr 1; omega))
    rw [e]; exact Mv.refl _ _ _
theorem Rot.none (d : Nat → α) {a m b : Nat} (h1 : a ≤ m) (h2 : m ≤ b) (h : ¬ (a < m ∧ m < b)) : Rot a m b d = d := by
  funext k; unfold Rot; ((repeat' split) <;> first | rfl | (exfalso; omega) | (congr 1; omega))
theorem merge_join (O : Ord lt) {d f g : Nat → α} {a m b s e : Nat} (c : Cut lt d a m b s e) (h1 : Srt lt d a m) (h2 : Srt lt d m b) (mf : Mv a (s + (e - m)) (Rot s m e d) f) (sf : Srt lt f a (s + (e - m))) (mg : Mv (s + (e - m)) b f g) (sg : Srt lt g (s + (e - m)) b) : Srt lt g a b ∧ Mv a b d g := by
  have F := fit_mv mf mg (rot_sides O c h1 h2)
  obtain ⟨q1, q2, q3, q4, q5, q6⟩ := c
  refine ⟨srt_join (sf.congr fun k k1 k2 => mg.out (by omega)) sg F, ?_⟩
  exact (((Rot.mv' d q2 q3).mono q1 q4).trans (mf.mono (Nat.le_refl _) (by omega))).trans (mg.mono (by omega) (Nat.le_refl _))
/-- The full blocks that end by a are in order. -/
def Lo (lt : α → α → Bool) (d : Nat → α) (bs a : Nat) : Prop := ∀ q, q * bs + bs ≤ a → Srt lt d (q * bs) (q * bs + bs)
/-- The blocks from a on are in order. -/
def Hi (lt : α → α → Bool) (d : Nat → α) (bs n a : Nat) : Prop := ∀ q, a ≤ q * bs → Srt lt d (q * bs) (min (q * bs + bs) n)
theorem mul_gap {q p bs : Nat} (h : q * bs < p * bs) : q * bs + bs ≤ p * bs := by
  have : q < p := Nat.lt_of_mul_lt_mul_right h
  calc q * bs + bs = (q + 1) * bs := by rw [Nat.succ_mul]
    _ ≤ p * bs := Nat.mul_le_mul_right _ this
theorem Lo.step {d e : Nat → α} {bs p : Nat} (h : Lo lt d bs (p * bs)) (m : Mv (p * bs) (p * bs + bs) d e) (hs : Srt lt e (p * bs) (p * bs + bs)) : Lo lt e bs (p * bs + bs) := by
  intro q hq
  by_cases e1 : q * bs < p * bs
  · exact (h q (mul_gap e1)).congr fun k k1 k2 => m.out (by have := mul_gap e1; omega)
  · have e2 : q * bs = p * bs := by omega
    rw [e2]; exact hs
theorem Lo.last {d e : Nat → α} {bs n p : Nat} (h : Lo lt d bs (p * bs)) (hn : n < p * bs + bs) (m : Mv (p * bs) n d e) (hs : Srt lt e (p * bs) n) : Hi lt e bs n 0 := by
  intro q _
  by_cases e1 : q * bs < p * bs
  · exact ((h q (mul_gap e1)).congr fun k k1 k2 => m.out (by have := mul_gap e1; omega)).sub (Nat.le_refl _) (by omega)
  · by_cases e2 : q * bs = p * bs
    · rw [e2]; exact hs.sub (Nat.le_refl _) (by omega)
    · have := mul_gap (q := p) (p := q) (bs := bs) (by omega)
      exact Srt.one lt e (by omega)
theorem Hi.step {d e : Nat → α} {bs n a b : Nat} (h : Hi lt d bs n a) (hab : a ≤ b) (m : Mv a b d e) : Hi lt e bs n b := fun q hq => (h q (by omega)).congr fun k k1 k2 => m.out (by omega)
/-- The two blocks that a round merges. -/
theorem Hi.two {d : Nat → α} {bs n p : Nat} (h : Hi lt d bs n (p * (2 * bs))) : Srt lt d (p * (2 * bs)) (min (p * (2 * bs) + bs) n) ∧ Srt lt d (p * (2 * bs) + bs) (min (p * (2 * bs) + 2 * bs) n) := by
  have e0 : 2 * p * bs = p * (2 * bs) := by rw [Nat.mul_comm 2 p, Nat.mul_assoc]
  have e1 : (2 * p + 1) * bs = p * (2 * bs) + bs := by rw [Nat.succ_mul, e0]
  have h0 := h (2 * p) (by omega)
  have h1 := h (2 * p + 1) (by omega)
  rw [e0] at h0
  rw [e1] at h1
  exact ⟨h0, by rwa [show p * (2 * bs) + bs + bs = p * (2 * bs) + 2 * bs by omega] at h1⟩
/-- The insertion's inner loop. -/
theorem srt_ins (O : Ord lt) {d : Nat → α} {a i j : Nat} (hs : Srt lt d a i) (h1 : a ≤ j) (h2 : j ≤ i) (hl : a < j → lt (d i) (d (j - 1)) = false) (hr : j < i → lt (d i) (d j) = true) : Srt lt (Dn j i d) a (i + 1) := srt_dn O hs h1 h2 hl hr
theorem Dn.top {j i : Nat} (d : Nat → α) : Dn j i d j = d i := by unfold Dn; rw [if_neg (by omega), if_pos rfl]
theorem Dn.under {j i x : Nat} (d : Nat → α) (h : x < j) : Dn j i d x = d x := by unfold Dn; rw [if_neg (by omega), if_neg (by omega)]
theorem Up.top {a k : Nat} (d : Nat → α) : Up a k d k = d a := by unfold Up; rw [if_neg (by omega), if_pos rfl]
end Go.Proofs.SB
