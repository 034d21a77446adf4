/- Numbers in falling order: what a sort of them is, and of three. No condition. -/
import Derived.Test.YthpgnlmkgllonaaBase
import Derived.Sort.LotA
namespace Go.Proofs.Ythpgnlmkgllonaa
open Go.Sort
/-- The order that a sort into falling order asks for. -/
def gtI (a b : Int) : Bool := decide (b < a)
theorem swo_gtI : SWO gtI where
  irrefl := fun x => by simp [gtI]
  trans := fun x y z h1 h2 => by simp only [gtI, decide_eq_true_eq] at *; omega
  ntrans := fun x y z h1 h2 => by simp only [gtI, decide_eq_false_iff_not] at *; omega
/-- A list of numbers in falling order. -/
def sortD (xs : List Int) : List Int := xs.mergeSort (fun x y => !gtI y x)
theorem sortD_of {d d' : Array Int} (hP : PermIn 0 d.size d d') (hS : SortedIn gtI 0 d.size d') : d'.toList = sortD d.toList :=
  sorted_unique_holds (lt := gtI) swo_gtI (fun x y h1 h2 => by simp only [gtI, decide_eq_false_iff_not] at *; omega) d d' hP hS
theorem sortD_unique {xs ys : List Int} (hp : ys.Perm xs) (hs : ∀ i j, i < j → j < ys.length → ys.getD j 0 ≤ ys.getD i 0) : ys = sortD xs := by
  have hl : ys.length = xs.length := hp.length_eq
  have h := sortD_of (d := xs.toArray) (d' := ys.toArray) ⟨by simpa using hl, fun i hi => ?_, ?_⟩ (fun i j _ hij hj => ?_)
  · simpa using h
  · have : xs.length ≤ i := by simpa using hi
    simp [getElem!_def, List.getElem?_eq_none (show ys.length ≤ i by omega), List.getElem?_eq_none this]
  · have e1 : (ys.toArray.extract 0 xs.toArray.size) = ys.toArray := by rw [show xs.toArray.size = ys.toArray.size by simpa using hl.symm]; exact Array.extract_size
    have e2 : (xs.toArray.extract 0 xs.toArray.size) = xs.toArray := Array.extract_size
    rw [e1, e2]; simpa using hp
  · have hj' : j < ys.length := by simpa [hl] using hj
    have := hs i j hij hj'
    simp only [List.getD_eq_getElem?_getD, List.getElem?_eq_getElem hj', List.getElem?_eq_getElem (show i < ys.length by omega), Option.getD_some] at this
    simp [gtI, getElem!_def, List.getElem?_eq_getElem hj', List.getElem?_eq_getElem (show i < ys.length by omega)]
    omega
theorem sortD_perm (xs : List Int) : (sortD xs).Perm xs := List.mergeSort_perm _ _
theorem sortD_length (xs : List Int) : (sortD xs).length = xs.length := (sortD_perm xs).length_eq
theorem sortD_congr {xs ys : List Int} (h : xs.Perm ys) : sortD xs = sortD ys := by
  refine sortD_unique ((sortD_perm xs).trans h) ?_
  intro i j hij hj
  have hp : (sortD xs).Pairwise (fun x y => (!gtI y x) = true) := List.pairwise_mergeSort (fun a b c h1 h2 => by simp [gtI] at *; omega) (fun a b => by simp [gtI]; omega) xs
  have := List.pairwise_iff_getElem.1 hp i j (by omega) hj hij
  simp [gtI] at this
  simp only [List.getD_eq_getElem?_getD, List.getElem?_eq_getElem hj, List.getElem?_eq_getElem (show i < (sortD xs).length by omega), Option.getD_some]
  exact this
/-- Put into a list that falls. -/
def insD (x : Int) : List Int → List Int
  | [] => [x]
  | y :: r => if x ≤ y then y :: insD x r else x :: y :: r
theorem insD_perm (x : Int) : ∀ l : List Int, (insD x l).Perm (x :: l)
  | [] => List.Perm.refl _
  | y :: r => by
    unfold insD
    by_cases h : x ≤ y
    · rw [if_pos h]; exact ((insD_perm x r).cons y).trans (List.Perm.swap x y r)
    · rw [if_neg h]
theorem insD_falls (x : Int) : ∀ l : List Int, l.Pairwise (fun a b => b ≤ a) → (insD x l).Pairwise (fun a b => b ≤ a)
  | [], _ => by simp [insD]
  | y :: r, h => by
    unfold insD
    obtain ⟨h1, h2⟩ := List.pairwise_cons.1 h
    by_cases hx : x ≤ y
    · rw [if_pos hx]
      refine List.pairwise_cons.2 ⟨fun b hb => ?_, insD_falls x r h2⟩
      rcases List.mem_cons.1 ((insD_perm x r).mem_iff.1 hb) with q | q
      · omega
      · exact h1 b q
    · rw [if_neg hx]
      refine List.pairwise_cons.2 ⟨fun b hb => ?_, h⟩
      rcases List.mem_cons.1 hb with q | q
      · omega
      · have := h1 b q; omega
/-- The list, an element put in after the other. -/
def insAll (xs : List Int) : List Int := xs.foldl (fun l x => insD x l) []
theorem insAll_snoc (xs : List Int) (x : Int) : insAll (xs ++ [x]) = insD x (insAll xs) := by simp [insAll]
theorem insAll_falls (xs : List Int) : (insAll xs).Pairwise (fun a b => b ≤ a) ∧ (insAll xs).Perm xs := by
  have key : ∀ (ys : List Int) (n : Nat), ys.length = n → (insAll ys).Pairwise (fun a b => b ≤ a) ∧ (insAll ys).Perm ys := by
    intro ys n
    induction n generalizing ys with
    | zero => intro h; have := List.length_eq_zero_iff.1 h; subst this; exact ⟨by simp [insAll], by simp [insAll]⟩
    | succ n ih =>
      intro h
      obtain ⟨l, x, rfl⟩ : ∃ l x, ys = l ++ [x] := ⟨ys.dropLast, ys.getLast (by intro e; subst e; simp at h), (List.dropLast_concat_getLast _).symm⟩
      have hl : l.length = n := by simpa using h
      obtain ⟨h1, h2⟩ := ih l hl
      rw [insAll_snoc]
      refine ⟨insD_falls x _ h1, (insD_perm x _).trans ?_⟩
      exact (h2.cons x).trans (List.perm_append_singleton x l).symm
  exact key xs _ rfl
theorem insAll_eq (xs : List Int) : insAll xs = sortD xs := by
  obtain ⟨h1, h2⟩ := insAll_falls xs
  refine sortD_unique h2 (fun i j hij hj => ?_)
  have := List.pairwise_iff_getElem.1 h1 i j (by omega) hj hij
  simp only [List.getD_eq_getElem?_getD, List.getElem?_eq_getElem hj, List.getElem?_eq_getElem (show i < (insAll xs).length by omega), Option.getD_some]
  exact this
/-- Where it goes in: behind all that are at least as large. -/
theorem insD_at (x : Int) : ∀ (l : List Int) (k : Nat), k ≤ l.length → (∀ i, i < k → x ≤ l.getD i 0) → (k = l.length ∨ l.getD k 0 < x) → insD x l = l.take k ++ x :: l.drop k
  | [], k, hk, _, _ => by simp at hk; subst hk; simp [insD]
  | y :: r, 0, _, _, h => by
    have : ¬ x ≤ y := by rcases h with h | h <;> simp at h; omega
    unfold insD; rw [if_neg this]; simp
  | y :: r, k + 1, hk, h1, h2 => by
    have : x ≤ y := by simpa using h1 0 (by omega)
    unfold insD; rw [if_pos this, insD_at x r k (by simpa using hk) (fun i hi => by simpa using h1 (i + 1) (by omega)) (by simpa using h2)]
    simp
/-- Three numbers in falling order. -/
theorem sortD3 (a b c : Int) : ∃ x y z, sortD [a, b, c] = [x, y, z] ∧ y ≤ x ∧ z ≤ y ∧ [x, y, z].Perm [a, b, c] := by
  have hl := sortD_length [a, b, c]
  have hp := sortD_perm [a, b, c]
  have hs : (sortD [a, b, c]).Pairwise (fun a b => b ≤ a) := by rw [← insAll_eq]; exact (insAll_falls _).1
  generalize sortD [a, b, c] = l at hl hp hs
  match l, hl with
  | [x, y, z], _ =>
    refine ⟨x, y, z, rfl, ?_, ?_, hp⟩
    · simp at hs; omega
    · simp at hs; omega
theorem sortD3_bounds {a b c x y z : Int} (h : [x, y, z].Perm [a, b, c]) {p : Int → Prop} (ha : p a) (hb : p b) (hc : p c) : p x ∧ p y ∧ p z := by
  have hm : ∀ t ∈ [x, y, z], p t := by
    intro t ht
    have := h.mem_iff.1 ht
    simp at this
    rcases this with rfl | rfl | rfl <;> assumption
  exact ⟨hm x (by simp), hm y (by simp), hm z (by simp)⟩
end Go.Proofs.Ythpgnlmkgllonaa
