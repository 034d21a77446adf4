/- The plain law of the trips from a place in a span of time: those that run, in the order of their start, and of their leg among equals. No condition. -/
import Derived.Test.YtdmeinfdldiegaaTripLaw
import Derived.Test.YtdmeinfdldiegaaStableMath
namespace Go.Proofs.Ytdmeinfdldiegaa
open Go.RowKit Go.PlainAid
set_option linter.unusedVariables false
def sT (legs : List LegD) (t : TripD) : Int := startT legs t.leg t.day
/-- Earlier, or as early and of an earlier leg. -/
def ltT (legs : List LegD) (a b : TripD) : Bool := decide (sT legs a < sT legs b ∨ sT legs a = sT legs b ∧ a.leg < b.leg)
theorem ltT_iff {legs : List LegD} {a b : TripD} : ltT legs a b = true ↔ (sT legs a < sT legs b ∨ sT legs a = sT legs b ∧ a.leg < b.leg) := by unfold ltT; exact decide_eq_true_iff
theorem ltT_not {legs : List LegD} {a b : TripD} : ltT legs a b = false ↔ ¬ (sT legs a < sT legs b ∨ sT legs a = sT legs b ∧ a.leg < b.leg) := by unfold ltT; exact decide_eq_false_iff_not
theorem ltT_ord (legs : List LegD) : SB.Ord (ltT legs) where
  asym x y h := by rw [ltT_iff] at h; rw [ltT_not]; omega
  trans x y z h g := by rw [ltT_not] at h g ⊢; omega
theorem ltT_lt (legs : List LegD) {a b : TripD} (h : ltT legs a b = true) : ltT legs b a = false := (ltT_ord legs).asym _ _ h
theorem ltT_trans {legs : List LegD} {a b c : TripD} (h : ltT legs a b = true) (g : ltT legs b c = true) : ltT legs a c = true := by rw [ltT_iff] at h g ⊢; omega
/-- A trip that is asked for. -/
structure GoodT (legs : List LegD) (off : List Int) (p : ByteArray) (u v : Int) (t : TripD) : Prop where
  src : ∃ x, legs[t.leg.toNat]? = some x ∧ x.src = p
  runs : runsB legs off t.leg t.day = true
  from_ : u ≤ sT legs t
  to_ : sT legs t < v
theorem GoodT.box {legs : List LegD} {off : List Int} {p : ByteArray} {u v : Int} {t : TripD} (h : GoodT legs off p u v t) : (0 ≤ t.leg ∧ t.leg < legs.length) ∧ 0 ≤ t.day ∧ t.day ≤ 60 := by
  obtain ⟨n, e, h1, h2, h3⟩ := runsB_some h.runs
  omega
/-- As early and of one leg: one trip. -/
theorem trip_one {legs : List LegD} {a b : TripD} (h : sT legs a = sT legs b) (hl : a.leg = b.leg) : a = b := by
  obtain ⟨l, d⟩ := a; obtain ⟨l', d'⟩ := b
  simp only [sT] at h hl; subst hl
  have := startT_day legs l d d'
  simp; omega
theorem trip_cases (legs : List LegD) (a b : TripD) : ltT legs a b = true ∨ a = b ∨ ltT legs b a = true := by
  rcases Int.lt_trichotomy (sT legs a) (sT legs b) with h | h | h
  · exact .inl (ltT_iff.2 (.inl h))
  · rcases Int.lt_trichotomy a.leg b.leg with g | g | g
    · exact .inl (ltT_iff.2 (.inr ⟨h, g⟩))
    · exact .inr (.inl (trip_one h g))
    · exact .inr (.inr (ltT_iff.2 (.inr ⟨h.symm, g⟩)))
  · exact .inr (.inr (ltT_iff.2 (.inl h)))
/-- In strict order. -/
def RiseT (legs : List LegD) (l : List TripD) : Prop := l.Pairwise fun a b => ltT legs a b = true
theorem riseT_ext {legs : List LegD} : ∀ {a b : List TripD}, RiseT legs a → RiseT legs b → (∀ x, x ∈ a ↔ x ∈ b) → a = b
  | [], [], _, _, _ => rfl
  | [], y :: b, _, _, h => by have := (h y).2 (by simp); simp at this
  | x :: a, [], _, _, h => by have := (h x).1 (by simp); simp at this
  | x :: a, y :: b, ha, hb, h => by
    obtain ⟨a1, a2⟩ := List.pairwise_cons.1 ha
    obtain ⟨b1, b2⟩ := List.pairwise_cons.1 hb
    have irr : ∀ z, ltT legs z z = true → False := fun z hz => by have := ltT_lt legs hz; rw [hz] at this; exact Bool.noConfusion this
    have hxy : x = y := by
      rcases List.mem_cons.1 ((h x).1 (by simp)) with e | hx
      · exact e
      rcases List.mem_cons.1 ((h y).2 (by simp)) with e | hy
      · exact e.symm
      · have := ltT_lt legs (a1 y hy); rw [b1 x hx] at this; exact Bool.noConfusion this
    subst hxy
    rw [riseT_ext a2 b2 fun z => ?_]
    have hz := h z
    rw [List.mem_cons, List.mem_cons] at hz
    constructor
    · intro hm
      rcases hz.1 (.inr hm) with e | e
      · subst e; exact (irr _ (a1 z hm)).elim
      · exact e
    · intro hm
      rcases hz.2 (.inr hm) with e | e
      · subst e; exact (irr _ (b1 z hm)).elim
      · exact e
/-- The trips that are asked for and of which D holds, in order. -/
structure PartT (legs : List LegD) (off : List Int) (p : ByteArray) (u v : Int) (D : TripD → Prop) (L : List TripD) : Prop where
  mem : ∀ t, t ∈ L ↔ GoodT legs off p u v t ∧ D t
  ord : RiseT legs L
def IsTrips (legs : List LegD) (off : List Int) (p : ByteArray) (u v : Int) (L : List TripD) : Prop := PartT legs off p u v (fun _ => True) L
theorem IsTrips.unique {legs : List LegD} {off : List Int} {p : ByteArray} {u v : Int} {L L' : List TripD} (h : IsTrips legs off p u v L) (h' : IsTrips legs off p u v L') : L = L' :=
  riseT_ext h.ord h'.ord fun t => (h.mem t).trans (h'.mem t).symm
theorem PartT.zero {legs : List LegD} {off : List Int} {p : ByteArray} {u v : Int} {D : TripD → Prop} (h : ∀ t, GoodT legs off p u v t → ¬ D t) : PartT legs off p u v D [] :=
  ⟨fun t => by simp only [List.not_mem_nil, false_iff]; rintro ⟨h1, h2⟩; exact h t h1 h2, List.Pairwise.nil⟩
theorem PartT.iff {legs : List LegD} {off : List Int} {p : ByteArray} {u v : Int} {D D' : TripD → Prop} {L : List TripD} (h : PartT legs off p u v D L) (hd : ∀ t, GoodT legs off p u v t → (D t ↔ D' t)) : PartT legs off p u v D' L :=
  ⟨fun t => by rw [h.mem t]; constructor <;> rintro ⟨h1, h2⟩ <;> exact ⟨h1, by first | exact (hd t h1).1 h2 | exact (hd t h1).2 h2⟩, h.ord⟩
/-- What the reference has gone through: earlier legs, and earlier days of this leg. -/
def DoneS (i d : Nat) (t : TripD) : Prop := t.leg < (i : Int) ∨ t.leg = (i : Int) ∧ t.day < (d : Int)
theorem DoneS.skip {legs : List LegD} {off : List Int} {p : ByteArray} {u v : Int} {i d : Nat} {L : List TripD} (h : PartT legs off p u v (DoneS i d) L) (hn : ¬ GoodT legs off p u v ⟨i, d⟩) : PartT legs off p u v (DoneS i (d + 1)) L :=
  h.iff fun t ht => by
    unfold DoneS
    have hne : ¬ (t.leg = (i : Int) ∧ t.day = (d : Int)) := fun e => hn (by obtain ⟨l, y⟩ := t; simp only at e; rw [← e.1, ← e.2]; exact ht)
    omega
theorem DoneS.next {legs : List LegD} {off : List Int} {p : ByteArray} {u v : Int} {i : Nat} {L : List TripD} (h : PartT legs off p u v (DoneS i 61) L) : PartT legs off p u v (DoneS (i + 1) 0) L :=
  h.iff fun t ht => by unfold DoneS; have := ht.box; omega
theorem DoneS.last {legs : List LegD} {off : List Int} {p : ByteArray} {u v : Int} {L : List TripD} (h : PartT legs off p u v (DoneS legs.length 0) L) : IsTrips legs off p u v L :=
  h.iff fun t ht => by unfold DoneS; have := ht.box; simp; omega
/-- A trip put where the search has found. -/
theorem DoneS.put {legs : List LegD} {off : List Int} {p : ByteArray} {u v : Int} {i d k : Nat} {L : List TripD} (h : PartT legs off p u v (DoneS i d) L) (hg : GoodT legs off p u v ⟨i, d⟩) (hk : k ≤ L.length)
    (hi : ∀ (j : Nat) (x : TripD), k ≤ j → L[j]? = some x → sT legs ⟨i, d⟩ < sT legs x) (hlo : k = 0 ∨ ∃ x, L[k - 1]? = some x ∧ ¬ sT legs ⟨i, d⟩ < sT legs x) :
    PartT legs off p u v (DoneS i (d + 1)) (L.take k ++ [⟨i, d⟩] ++ L.drop k) := by
  have hL : L = L.take k ++ L.drop k := (List.take_append_drop k L).symm
  have ho := h.ord
  unfold RiseT at ho
  have ho2 := ho
  rw [hL, List.pairwise_append] at ho2
  obtain ⟨o1, o2, o3⟩ := ho2
  have low : ∀ x ∈ L.take k, ltT legs x ⟨i, d⟩ = true := by
    intro x hx
    have hxL : x ∈ L := List.mem_of_mem_take hx
    obtain ⟨q, hq, hqx⟩ := List.getElem_of_mem hx
    rw [List.length_take] at hq
    have hd := ((h.mem x).1 hxL).2
    have hs : ¬ sT legs ⟨i, d⟩ < sT legs x := by
      rcases hlo with h0 | ⟨y, hy, hns⟩
      · omega
      obtain ⟨hk1, hy'⟩ := List.getElem?_eq_some_iff.1 hy
      rw [List.getElem_take] at hqx
      by_cases hqk : q = k - 1
      · subst hqk; rw [hqx] at hy'; rw [hy']; exact hns
      · have := List.pairwise_iff_getElem.1 ho q (k - 1) (by omega) hk1 (by omega)
        rw [hqx, hy', ltT_iff] at this
        omega
    rw [ltT_iff]
    unfold DoneS at hd
    by_cases he : sT legs x = sT legs ⟨i, d⟩
    · refine .inr ⟨he, ?_⟩
      rcases hd with hd | ⟨hd1, hd2⟩
      · exact hd
      · have := trip_one he hd1
        rw [this] at hd2; simp at hd2
    · exact .inl (by omega)
  have high : ∀ x ∈ L.drop k, ltT legs ⟨i, d⟩ x = true := by
    intro x hx
    obtain ⟨q, hq⟩ := List.getElem?_of_mem hx
    rw [List.getElem?_drop] at hq
    exact ltT_iff.2 (.inl (hi _ x (by omega) hq))
  refine ⟨fun t => ?_, ?_⟩
  · have hm := h.mem t
    rw [hL, List.mem_append] at hm
    rw [List.mem_append, List.mem_append, List.mem_singleton]
    have hD : DoneS i (d + 1) t ↔ DoneS i d t ∨ t = ⟨i, d⟩ := by
      obtain ⟨l, y⟩ := t
      unfold DoneS; simp only [TripD.mk.injEq]; omega
    rw [hD]
    constructor
    · rintro ((hx | hx) | hx)
      · have := hm.1 (.inl hx); exact ⟨this.1, .inl this.2⟩
      · subst hx; exact ⟨hg, .inr rfl⟩
      · have := hm.1 (.inr hx); exact ⟨this.1, .inl this.2⟩
    · rintro ⟨h1, h2 | h2⟩
      · rcases hm.2 ⟨h1, h2⟩ with h3 | h3
        · exact .inl (.inl h3)
        · exact .inr h3
      · exact .inl (.inr h2)
  · unfold RiseT
    rw [List.append_assoc, List.pairwise_append]
    refine ⟨o1, ?_, ?_⟩
    · rw [List.singleton_append, List.pairwise_cons]; exact ⟨high, o2⟩
    · intro x hx y hy
      rw [List.singleton_append, List.mem_cons] at hy
      rcases hy with rfl | hy
      · exact low x hx
      · exact o3 x hx y hy
/-- What the program has gathered: each good trip once. -/
structure Gath (legs : List LegD) (off : List Int) (p : ByteArray) (u v : Int) (D : TripD → Prop) (L : List TripD) : Prop where
  mem : ∀ t, t ∈ L ↔ GoodT legs off p u v t ∧ D t
  nodup : L.Nodup
def DoneI (d i : Nat) (t : TripD) : Prop := t.day < (d : Int) ∨ t.day = (d : Int) ∧ t.leg < (i : Int)
theorem Gath.zero {legs : List LegD} {off : List Int} {p : ByteArray} {u v : Int} : Gath legs off p u v (DoneI 0 0) [] :=
  ⟨fun t => by simp only [List.not_mem_nil, false_iff]; rintro ⟨h1, h2⟩; unfold DoneI at h2; have := h1.box; omega, List.nodup_nil⟩
theorem Gath.iff {legs : List LegD} {off : List Int} {p : ByteArray} {u v : Int} {D D' : TripD → Prop} {L : List TripD} (h : Gath legs off p u v D L) (hd : ∀ t, GoodT legs off p u v t → (D t ↔ D' t)) : Gath legs off p u v D' L :=
  ⟨fun t => by rw [h.mem t]; constructor <;> rintro ⟨h1, h2⟩ <;> exact ⟨h1, by first | exact (hd t h1).1 h2 | exact (hd t h1).2 h2⟩, h.nodup⟩
theorem Gath.skip {legs : List LegD} {off : List Int} {p : ByteArray} {u v : Int} {d i : Nat} {L : List TripD} (h : Gath legs off p u v (DoneI d i) L) (hn : ¬ GoodT legs off p u v ⟨i, d⟩) : Gath legs off p u v (DoneI d (i + 1)) L :=
  h.iff fun t ht => by
    unfold DoneI
    have hne : ¬ (t.leg = (i : Int) ∧ t.day = (d : Int)) := fun e => hn (by obtain ⟨l, y⟩ := t; simp only at e; rw [← e.1, ← e.2]; exact ht)
    omega
theorem Gath.put {legs : List LegD} {off : List Int} {p : ByteArray} {u v : Int} {d i : Nat} {L : List TripD} (h : Gath legs off p u v (DoneI d i) L) (hg : GoodT legs off p u v ⟨i, d⟩) : Gath legs off p u v (DoneI d (i + 1)) (L ++ [⟨i, d⟩]) := by
  refine ⟨fun t => ?_, ?_⟩
  · have hm := h.mem t
    rw [List.mem_append, List.mem_singleton]
    have hD : DoneI d (i + 1) t ↔ DoneI d i t ∨ t = ⟨i, d⟩ := by
      obtain ⟨l, y⟩ := t
      unfold DoneI; simp only [TripD.mk.injEq]; omega
    rw [hD]
    constructor
    · rintro (hx | hx)
      · have := hm.1 hx; exact ⟨this.1, .inl this.2⟩
      · subst hx; exact ⟨hg, .inr rfl⟩
    · rintro ⟨h1, h2 | h2⟩
      · exact .inl (hm.2 ⟨h1, h2⟩)
      · exact .inr h2
  · rw [List.nodup_append]
    refine ⟨h.nodup, by simp, ?_⟩
    intro a ha b hb e
    rw [List.mem_singleton] at hb
    subst hb; subst e
    have := ((h.mem _).1 ha).2
    unfold DoneI at this
    simp at this
theorem Gath.next {legs : List LegD} {off : List Int} {p : ByteArray} {u v : Int} {d : Nat} {L : List TripD} (h : Gath legs off p u v (DoneI d legs.length) L) : Gath legs off p u v (DoneI (d + 1) 0) L :=
  h.iff fun t ht => by unfold DoneI; have := ht.box; omega
theorem Gath.last {legs : List LegD} {off : List Int} {p : ByteArray} {u v : Int} {L : List TripD} (h : Gath legs off p u v (DoneI 61 0) L) : Gath legs off p u v (fun _ => True) L :=
  h.iff fun t ht => by unfold DoneI; have := ht.box; simp; omega
/-- The first n of a row, as a list. -/
def rowL (n : Nat) (d : Nat → TripD) : List TripD := (List.range n).map d
theorem rowL_len (n : Nat) (d : Nat → TripD) : (rowL n d).length = n := by simp [rowL]
theorem rowL_at {n : Nat} (d : Nat → TripD) {k : Nat} (h : k < n) : (rowL n d)[k]? = some (d k) := by simp [rowL, h]
theorem rowL_get {n : Nat} (d : Nat → TripD) {k : Nat} (h : k < (rowL n d).length) : (rowL n d)[k] = d k := by simp [rowL]
theorem rowL_mem {n : Nat} {d : Nat → TripD} {t : TripD} : t ∈ rowL n d ↔ ∃ k, k < n ∧ d k = t := by simp [rowL]
theorem rowL_of (L : List TripD) : rowL L.length (fun k => (L[k]?).getD ⟨0, 0⟩) = L := by
  apply List.ext_getElem
  · simp [rowL]
  · intro k h1 h2; rw [rowL_get]; simp [h2]
/-- What has been gathered, sorted: the trips asked for. -/
theorem Gath.sorted {legs : List LegD} {off : List Int} {p : ByteArray} {u v : Int} {n : Nat} {d d' : Nat → TripD} (h : Gath legs off p u v (fun _ => True) (rowL n d)) (hs : SB.Srt (ltT legs) d' 0 n) (hm : SB.Mv 0 n d d') : IsTrips legs off p u v (rowL n d') := by
  have inj : ∀ i j, 0 ≤ i → i < n → 0 ≤ j → j < n → d i = d j → i = j := by
    intro i j _ hi _ hj e
    have hn := h.nodup
    unfold List.Nodup at hn
    rw [List.pairwise_iff_getElem] at hn
    rcases Nat.lt_trichotomy i j with hl | hl | hl
    · exact absurd (by rw [rowL_get, rowL_get]; exact e) (hn i j (by rw [rowL_len]; exact hi) (by rw [rowL_len]; exact hj) hl)
    · exact hl
    · exact absurd (by rw [rowL_get, rowL_get]; exact e.symm) (hn j i (by rw [rowL_len]; exact hj) (by rw [rowL_len]; exact hi) hl)
  have inj' := hm.inj inj
  refine ⟨fun t => ?_, ?_⟩
  · rw [← h.mem t, rowL_mem, rowL_mem]
    constructor
    · rintro ⟨k, hk, rfl⟩
      obtain ⟨j, _, hj, e⟩ := hm.mem (Nat.zero_le k) hk
      exact ⟨j, hj, e.symm⟩
    · rintro ⟨k, hk, rfl⟩
      obtain ⟨j, _, hj, e⟩ := hm.mem' (Nat.zero_le k) hk
      exact ⟨j, hj, e.symm⟩
  · unfold RiseT
    rw [List.pairwise_iff_getElem]
    intro i j hi hj hij
    rw [rowL_get, rowL_get]
    rw [rowL_len] at hi hj
    have := hs i j (Nat.zero_le _) hij hj
    rcases trip_cases legs (d' i) (d' j) with e | e | e
    · exact e
    · have := inj' i j (Nat.zero_le _) hi (Nat.zero_le _) hj e; omega
    · rw [e] at this; exact Bool.noConfusion this
end Go.Proofs.Ytdmeinfdldiegaa
