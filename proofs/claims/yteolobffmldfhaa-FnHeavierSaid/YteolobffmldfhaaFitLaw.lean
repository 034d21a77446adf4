/- The plain laws of what fits, and of a parcel that is turned. No condition. -/
import Derived.Test.YteolobffmldfhaaParcel
namespace Go.Proofs.Yteolobffmldfhaa
open Go.RowKit Go.PlainAid
theorem fits_parts {xs ys : List Int} (h : fits xs ys = true) : three xs = true ∧ three ys = true ∧ (sortD xs).getD 0 0 ≤ (sortD ys).getD 0 0 ∧ (sortD xs).getD 1 0 ≤ (sortD ys).getD 1 0 ∧ (sortD xs).getD 2 0 ≤ (sortD ys).getD 2 0 := by
  unfold fits at h
  simp only [Bool.and_eq_true, decide_eq_true_eq] at h
  exact ⟨h.1.1.1.1, h.1.1.1.2, h.1.1.2, h.1.2, h.2⟩
theorem fits_of {xs ys : List Int} (h1 : three xs = true) (h2 : three ys = true) (h3 : (sortD xs).getD 0 0 ≤ (sortD ys).getD 0 0) (h4 : (sortD xs).getD 1 0 ≤ (sortD ys).getD 1 0) (h5 : (sortD xs).getD 2 0 ≤ (sortD ys).getD 2 0) : fits xs ys = true := by
  unfold fits; rw [h1, h2]; simp only [Bool.true_and, Bool.and_eq_true, decide_eq_true_eq]; exact ⟨⟨h3, h4⟩, h5⟩
theorem fits_trans {xs ys zs : List Int} (h1 : fits xs ys = true) (h2 : fits ys zs = true) : fits xs zs = true := by
  obtain ⟨a1, -, a3, a4, a5⟩ := fits_parts h1
  obtain ⟨-, b2, b3, b4, b5⟩ := fits_parts h2
  exact fits_of a1 b2 (by omega) (by omega) (by omega)
theorem girth_le {xs ys : List Int} (h : fits xs ys = true) : girth xs ≤ girth ys := by
  obtain ⟨a1, a2, a3, a4, a5⟩ := fits_parts h
  unfold girth; rw [a1, a2]; simp only [if_true]; omega
theorem vol_eq {a b c : Int} (h : three [a, b, c] = true) : vol [a, b, c] = a * b * c := by unfold vol; rw [h]; rfl
theorem prod_perm : ∀ {xs ys : List Int}, xs.Perm ys → xs.foldr (· * ·) 1 = ys.foldr (· * ·) 1 := by
  intro xs ys h
  induction h with
  | nil => rfl
  | cons x _ ih => simp only [List.foldr_cons, ih]
  | swap x y l => simp only [List.foldr_cons]; rw [← Int.mul_assoc, ← Int.mul_assoc, Int.mul_comm x y]
  | trans _ _ ih1 ih2 => exact ih1.trans ih2
theorem three_perm {xs ys : List Int} (h : xs.Perm ys) : three xs = three ys := by
  have e : (xs.length = 3 ∧ ∀ x ∈ xs, 1 ≤ x ∧ x ≤ 2000) ↔ (ys.length = 3 ∧ ∀ x ∈ ys, 1 ≤ x ∧ x ≤ 2000) := by
    rw [h.length_eq]
    constructor
    · rintro ⟨h1, h2⟩; exact ⟨h1, fun x hx => h2 x (h.mem_iff.2 hx)⟩
    · rintro ⟨h1, h2⟩; exact ⟨h1, fun x hx => h2 x (h.mem_iff.1 hx)⟩
  unfold three
  by_cases hc : (ys.length = 3 ∧ ∀ x ∈ ys, 1 ≤ x ∧ x ≤ 2000)
  · rw [decide_eq_true hc, decide_eq_true (e.2 hc)]
  · rw [decide_eq_false hc, decide_eq_false (fun q => hc (e.1 q))]
theorem vol_prod {xs : List Int} (h : three xs = true) : vol xs = xs.foldr (· * ·) 1 := by
  obtain ⟨a, b, c, rfl, -⟩ := three_of h
  rw [vol_eq h]; simp [Int.mul_assoc]
theorem vol_perm {xs ys : List Int} (h : xs.Perm ys) : vol xs = vol ys := by
  cases ht : three xs
  · have hu : three ys = false := by rw [← three_perm h]; exact ht
    unfold vol; rw [ht, hu]; rfl
  · have hu : three ys = true := by rw [← three_perm h]; exact ht
    rw [vol_prod ht, vol_prod hu, prod_perm h]
theorem girth_perm {xs ys : List Int} (h : xs.Perm ys) : girth xs = girth ys := by
  unfold girth; rw [three_perm h, sortD_congr h]
theorem fits_perm {xs ys zs : List Int} (h : xs.Perm ys) : fits xs zs = fits ys zs := by
  unfold fits; rw [three_perm h, sortD_congr h]
theorem fits_turned {xs ys : List Int} (h : xs.Perm ys) : fits xs ys = three xs := by
  cases ht : three xs
  · unfold fits; rw [ht]; rfl
  · exact fits_of ht (by rw [← three_perm h]; exact ht) (by rw [sortD_congr h]; omega) (by rw [sortD_congr h]; omega) (by rw [sortD_congr h]; omega)
theorem vol_pos (xs : List Int) : decide (0 < vol xs) = three xs := by
  cases ht : three xs
  · have : vol xs = 0 := by unfold vol; rw [ht]; rfl
    rw [this]; rfl
  · exact decide_eq_true (by have := (three_vol ht).1; omega)
theorem vol_le {xs ys : List Int} (h : fits xs ys = true) : vol xs ≤ vol ys := by
  obtain ⟨a1, a2, a3, a4, a5⟩ := fits_parts h
  obtain ⟨p, q, r, hs, h1, h2, h3, h4, -⟩ := three_sorted a1
  obtain ⟨p', q', r', hs', k1, k2, k3, k4, -⟩ := three_sorted a2
  rw [hs, hs'] at a3 a4 a5
  simp at a3 a4 a5
  rw [vol_prod a1, vol_prod a2, ← prod_perm (sortD_perm xs), ← prod_perm (sortD_perm ys), hs, hs']
  simp only [List.foldr_cons, List.foldr_nil, Int.mul_one]
  have e1 : q * r ≤ q' * r' := Int.mul_le_mul a4 a5 (by omega) (by omega)
  have e2 : 0 ≤ q * r := Int.mul_nonneg (by omega) (by omega)
  exact Int.mul_le_mul a3 e1 e2 (by omega)
theorem parB_perm {a b : Int} {t f : ByteArray} {wt vl : Int} {xs ys : List Int} (h : xs.Perm ys) : parB a b t f wt xs vl = parB a b t f wt ys vl := by
  unfold parB; rw [three_perm h, girth_perm h]
theorem charge_perm {a b : Int} {t f : ByteArray} {wt vl : Int} {xs ys : List Int} (h : xs.Perm ys) : chargeW a b t f wt xs vl = chargeW a b t f wt ys vl := by
  unfold chargeW; rw [parB_perm h, vol_perm h]
end Go.Proofs.Yteolobffmldfhaa
