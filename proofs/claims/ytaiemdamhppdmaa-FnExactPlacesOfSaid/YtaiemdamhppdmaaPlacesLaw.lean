/- The plain law of a network's places: each once, in order. No condition. -/
import Derived.Test.YtaiemdamhppdmaaArgs
namespace Go.Proofs.Ytaiemdamhppdmaa
open Go.RowKit Go.PlainAid
theorem byte_inj {a b : ByteArray} (h : a.data.toList = b.data.toList) : a = b := by
  obtain ⟨⟨l⟩⟩ := a; obtain ⟨⟨m⟩⟩ := b
  simp at h; rw [h]
/-- A text's letters. -/
def ky (s : ByteArray) : List UInt8 := s.data.toList
/-- The places that the legs name, one behind the other. -/
def legPl (xs : List LegD) : List ByteArray := xs.flatMap fun d => [d.src, d.dst]
theorem legPl_cons (x : LegD) (xs : List LegD) : legPl (x :: xs) = x.src :: x.dst :: legPl xs := rfl
theorem legPl_len : ∀ xs : List LegD, (legPl xs).length = 2 * xs.length
  | [] => rfl
  | x :: xs => by rw [legPl_cons, List.length_cons, List.length_cons, legPl_len xs, List.length_cons]; omega
theorem legPl_at : ∀ (xs : List LegD) (k : Nat) (d : LegD), xs[k]? = some d → (legPl xs)[2 * k]? = some d.src ∧ (legPl xs)[2 * k + 1]? = some d.dst
  | [], k, d, h => by simp at h
  | x :: xs, 0, d, h => by simp at h; subst h; exact ⟨rfl, rfl⟩
  | x :: xs, k + 1, d, h => by
    have ih := legPl_at xs k d (by simpa using h)
    have e1 : 2 * (k + 1) = 2 * k + 1 + 1 := by omega
    have e2 : 2 * (k + 1) + 1 = 2 * k + 1 + 1 + 1 := by omega
    rw [legPl_cons, e2, e1]
    simpa using ih
theorem mem_take_next {α : Type} {P : List α} {i : Nat} {p : α} (h : P[i]? = some p) (x : α) : x ∈ P.take (i + 1) ↔ x ∈ P.take i ∨ x = p := by
  obtain ⟨hlt, hp⟩ := List.getElem?_eq_some_iff.1 h
  rw [List.take_succ_eq_append_getElem hlt, hp, List.mem_append, List.mem_singleton]
/-- Rising, no two alike. -/
def Rise (l : List (List UInt8)) : Prop := l.Pairwise fun a b => a < b
theorem rise_ext : ∀ {a b : List (List UInt8)}, Rise a → Rise b → (∀ x, x ∈ a ↔ x ∈ b) → a = b
  | [], [], _, _, _ => rfl
  | [], y :: b, _, _, h => by have := (h y).2 (by simp); simp at this
  | x :: a, [], _, _, h => by have := (h x).1 (by simp); simp at this
  | x :: a, y :: b, ha, hb, h => by
    obtain ⟨a1, a2⟩ := List.pairwise_cons.1 ha
    obtain ⟨b1, b2⟩ := List.pairwise_cons.1 hb
    have hxy : x = y := by
      rcases List.mem_cons.1 ((h x).1 (by simp)) with e | hx
      · exact e
      rcases List.mem_cons.1 ((h y).2 (by simp)) with e | hy
      · exact e.symm
      · exact absurd (b1 x hx) (List.lt_asymm (a1 y hy))
    subst hxy
    rw [rise_ext a2 b2 fun z => ?_]
    have hz := h z
    rw [List.mem_cons, List.mem_cons] at hz
    constructor
    · intro hm
      rcases hz.1 (.inr hm) with e | e
      · subst e; exact absurd (a1 z hm) (List.lt_irrefl z)
      · exact e
    · intro hm
      rcases hz.2 (.inr hm) with e | e
      · subst e; exact absurd (b1 z hm) (List.lt_irrefl z)
      · exact e
/-- The list of a network's places. -/
def IsPlaces (P : List ByteArray) (L : List ByteArray) : Prop := Rise (L.map ky) ∧ ∀ x, x ∈ L ↔ x ∈ P
theorem IsPlaces.unique {P L M : List ByteArray} (h : IsPlaces P L) (g : IsPlaces P M) : L = M := by
  have e : L.map ky = M.map ky := rise_ext h.1 g.1 fun x => by
    rw [List.mem_map, List.mem_map]
    constructor
    · rintro ⟨y, hy, rfl⟩; exact ⟨y, (g.2 y).2 ((h.2 y).1 hy), rfl⟩
    · rintro ⟨y, hy, rfl⟩; exact ⟨y, (h.2 y).2 ((g.2 y).1 hy), rfl⟩
  have inj : ∀ (l m : List ByteArray), l.map ky = m.map ky → l = m := by
    intro l
    induction l with
    | nil => intro m hm; cases m with | nil => rfl | cons _ _ => cases hm
    | cons a l ih =>
      intro m hm
      cases m with
      | nil => cases hm
      | cons b m =>
        rw [List.map_cons, List.map_cons] at hm
        injection hm with h1 h2
        rw [byte_inj h1, ih m h2]
  exact inj _ _ e
/-- What has been gathered behind i of them: no two alike. -/
def Gath (P : List ByteArray) (i : Nat) (A : List ByteArray) : Prop := A.Nodup ∧ (∀ x, x ∈ A ↔ x ∈ P.take i) ∧ A.length ≤ i
theorem Gath.zero (P : List ByteArray) : Gath P 0 [] := ⟨List.nodup_nil, fun x => by simp, Nat.le_refl _⟩
theorem Gath.old {P A : List ByteArray} {i : Nat} {p : ByteArray} (h : Gath P i A) (hp : P[i]? = some p) (hm : p ∈ A) : Gath P (i + 1) A :=
  ⟨h.1, fun x => by
    rw [mem_take_next hp, ← h.2.1]
    exact ⟨.inl, fun e => e.elim id fun e => e ▸ hm⟩, Nat.le_succ_of_le h.2.2⟩
theorem Gath.new {P A : List ByteArray} {i : Nat} {p : ByteArray} (h : Gath P i A) (hp : P[i]? = some p) (hm : p ∉ A) : Gath P (i + 1) (A ++ [p]) :=
  ⟨by
    rw [List.nodup_append]
    refine ⟨h.1, by simp, fun a ha b hb => ?_⟩
    rw [List.mem_singleton] at hb
    subst hb
    exact fun e => hm (e ▸ ha), fun x => by rw [mem_take_next hp, ← h.2.1, List.mem_append, List.mem_singleton], by rw [List.length_append]; have := h.2.2; simp; omega⟩
/-- The library's sort of what was gathered. -/
theorem Gath.sorted {P A : List ByteArray} (h : Gath P P.length A) {L : List ByteArray} (hL : L.map ky = (A.map ky).mergeSort fun x y => decide (x ≤ y)) : IsPlaces P L := by
  have hperm : (L.map ky).Perm (A.map ky) := by rw [hL]; exact List.mergeSort_perm _ _
  have hnd : (A.map ky).Nodup := by
    rw [List.nodup_iff_pairwise_ne, List.pairwise_map]
    exact (List.nodup_iff_pairwise_ne.1 h.1).imp fun hne e => hne (byte_inj e)
  have hsort : (L.map ky).Pairwise fun a b => decide (a ≤ b) = true := by
    rw [hL]
    refine List.pairwise_mergeSort (le := fun x y => decide (x ≤ y)) (fun a b c h1 h2 => ?_) (fun a b => ?_) _
    · exact decide_eq_true (List.le_trans (of_decide_eq_true h1) (of_decide_eq_true h2))
    · rcases List.le_total a b with h | h
      · simp [h]
      · simp [h]
  refine ⟨?_, fun x => ?_⟩
  · have hnd2 : (L.map ky).Nodup := hperm.symm.nodup hnd
    refine ((List.nodup_iff_pairwise_ne.1 hnd2).and hsort).imp (fun {a b} h2 => ?_)
    obtain ⟨hne, hle⟩ := h2
    rcases Classical.em (a < b) with h | h
    · exact h
    · exact absurd (List.le_antisymm (of_decide_eq_true hle) (List.not_lt.1 h)) hne
  · have e := h.2.1 x
    rw [List.take_length] at e
    rw [← e]
    constructor
    · intro hx
      have := hperm.mem_iff.1 (List.mem_map_of_mem (f := ky) hx)
      obtain ⟨y, hy, exy⟩ := List.mem_map.1 this
      rwa [byte_inj exy] at hy
    · intro hx
      have := hperm.mem_iff.2 (List.mem_map_of_mem (f := ky) hx)
      obtain ⟨y, hy, exy⟩ := List.mem_map.1 this
      rwa [byte_inj exy] at hy
/-- The reference's way: a rising list, each new one put where it belongs. -/
def Put (P : List ByteArray) (i : Nat) (L : List ByteArray) : Prop := Rise (L.map ky) ∧ (∀ x, x ∈ L ↔ x ∈ P.take i) ∧ L.length ≤ i
theorem Put.zero (P : List ByteArray) : Put P 0 [] := ⟨List.Pairwise.nil, fun x => by simp, Nat.le_refl _⟩
theorem Put.done {P L : List ByteArray} (h : Put P P.length L) : IsPlaces P L := ⟨h.1, fun x => by have := h.2.1 x; rwa [List.take_length] at this⟩
theorem Put.old {P L : List ByteArray} {i : Nat} {p : ByteArray} (h : Put P i L) (hp : P[i]? = some p) (hm : p ∈ L) : Put P (i + 1) L :=
  ⟨h.1, fun x => by
    rw [mem_take_next hp, ← h.2.1]
    exact ⟨.inl, fun e => e.elim id fun e => e ▸ hm⟩, Nat.le_succ_of_le h.2.2⟩
theorem rise_put {l : List (List UInt8)} {p : List UInt8} {k : Nat} (h : Rise l) (hk : k ≤ l.length) (hlo : ∀ (j : Nat) (x : List UInt8), j < k → l[j]? = some x → x < p) (hhi : k = l.length ∨ ∃ x, l[k]? = some x ∧ p < x) : Rise (l.take k ++ p :: l.drop k) := by
  unfold Rise at h ⊢
  have h' := h
  rw [← List.take_append_drop k l, List.pairwise_append] at h
  obtain ⟨h1, h2, h3⟩ := h
  have hpd : ∀ y ∈ l.drop k, p < y := by
    rcases hhi with e | ⟨x, hx, hpx⟩
    · intro y hy
      rw [List.drop_eq_nil_of_le (by omega)] at hy
      simp at hy
    · obtain ⟨hlt, ex⟩ := List.getElem?_eq_some_iff.1 hx
      intro y hy
      rw [List.drop_eq_getElem_cons hlt, ex] at hy h2
      rcases List.mem_cons.1 hy with e | hy
      · rw [e]; exact hpx
      · exact List.lt_trans hpx ((List.pairwise_cons.1 h2).1 y hy)
  rw [List.pairwise_append]
  refine ⟨h1, List.pairwise_cons.2 ⟨hpd, h2⟩, fun a ha b hb => ?_⟩
  rcases List.mem_cons.1 hb with e | hb
  · subst e
    obtain ⟨j, hj, ea⟩ := List.getElem_of_mem ha
    rw [List.length_take] at hj
    rw [List.getElem_take] at ea
    exact hlo j a (by omega) (by rw [← ea]; exact List.getElem?_eq_getElem (by omega))
  · exact h3 a ha b hb
theorem Put.new {P L : List ByteArray} {i k : Nat} {p : ByteArray} (h : Put P i L) (hp : P[i]? = some p) (hk : k ≤ L.length) (hlo : ∀ (j : Nat) (x : ByteArray), j < k → L[j]? = some x → ky x < ky p) (hhi : k = L.length ∨ ∃ x, L[k]? = some x ∧ ¬ ky x < ky p ∧ x ≠ p) : Put P (i + 1) (L.take k ++ p :: L.drop k) := by
  refine ⟨?_, fun x => ?_, ?_⟩
  · rw [List.map_append, List.map_cons, List.map_take, List.map_drop]
    refine rise_put h.1 (by simpa using hk) (fun j x hj hx => ?_) ?_
    · rw [List.getElem?_map, Option.map_eq_some_iff] at hx
      obtain ⟨y, hy, rfl⟩ := hx
      exact hlo j y hj hy
    · rcases hhi with e | ⟨x, hx, h1, h2⟩
      · exact .inl (by simpa using e)
      · refine .inr ⟨ky x, by rw [List.getElem?_map, hx]; rfl, ?_⟩
        rcases Classical.em (ky p < ky x) with h | h
        · exact h
        · exact absurd (byte_inj (List.le_antisymm (List.not_lt.1 h) (List.not_lt.1 h1))) h2
  · rw [mem_take_next hp, ← h.2.1]
    conv => rhs; rw [← List.take_append_drop k L]
    simp only [List.mem_append, List.mem_cons]
    constructor
    · rintro (h | h | h)
      · exact .inl (.inl h)
      · exact .inr h
      · exact .inl (.inr h)
    · rintro ((h | h) | h)
      · exact .inl h
      · exact .inr (.inr h)
      · exact .inr (.inl h)
  · have := h.2.2
    simp only [List.length_append, List.length_take, List.length_cons, List.length_drop]
    omega
end Go.Proofs.Ytaiemdamhppdmaa
