/- The plain laws of the next and the last trip. No condition. -/
import Derived.Test.YtdmeinfdldiegaaNextLast
namespace Go.Proofs.Ytdmeinfdldiegaa
open Go.RowKit Go.PlainAid
theorem first_spec (p : Int → Bool) : ∀ (n d : Nat), (firstFrom p d n = -1 ∧ ∀ k : Nat, d ≤ k → k < d + n → p k = false) ∨ (∃ r : Nat, d ≤ r ∧ r < d + n ∧ firstFrom p d n = (r : Int) ∧ p r = true ∧ ∀ k : Nat, d ≤ k → k < r → p k = false)
  | 0, d => .inl ⟨rfl, fun k h1 h2 => by omega⟩
  | n + 1, d => by
    rw [firstFrom]
    cases h : p d
    · simp only [cond_false]
      rcases first_spec p n (d + 1) with ⟨h1, h2⟩ | ⟨r, h1, h2, h3, h4, h5⟩
      · refine .inl ⟨h1, fun k a b => ?_⟩
        by_cases e : k = d
        · subst e; exact h
        · exact h2 k (by omega) (by omega)
      · refine .inr ⟨r, by omega, by omega, h3, h4, fun k a b => ?_⟩
        by_cases e : k = d
        · subst e; exact h
        · exact h5 k (by omega) (by omega)
    · exact .inr ⟨d, by omega, by omega, rfl, h, fun k a b => by omega⟩
theorem last_spec (p : Int → Bool) : ∀ n : Nat, (lastBelow p n = -1 ∧ ∀ k : Nat, k < n → p k = false) ∨ (∃ r : Nat, r < n ∧ lastBelow p n = (r : Int) ∧ p r = true ∧ ∀ k : Nat, r < k → k < n → p k = false)
  | 0 => .inl ⟨rfl, fun k h => by omega⟩
  | n + 1 => by
    rw [lastBelow]
    cases h : p n
    · simp only [cond_false]
      rcases last_spec p n with ⟨h1, h2⟩ | ⟨r, h1, h2, h3, h4⟩
      · refine .inl ⟨h1, fun k a => ?_⟩
        by_cases e : k = n
        · subst e; exact h
        · exact h2 k (by omega)
      · refine .inr ⟨r, by omega, h2, h3, fun k a b => ?_⟩
        by_cases e : k = n
        · subst e; exact h
        · exact h4 k a (by omega)
    · exact .inr ⟨n, by omega, rfl, h, fun k a b => by omega⟩
theorem runsOn_parts {legs : List LegD} {off : List Int} {ch leg day : Int} (h : runsOnB legs off ch leg day = true) : netB legs off ch = true ∧ runsB legs off leg day = true := by
  unfold runsOnB at h; simpa using h
theorem startT_day (legs : List LegD) (leg day day' : Int) : startT legs leg day - startT legs leg day' = (day - day') * 1440 := by unfold startT; omega
theorem endT_day (legs : List LegD) (leg day day' : Int) : endT legs leg day - endT legs leg day' = (day - day') * 1440 := by unfold endT; have := startT_day legs leg day day'; omega
/-- What a trip that runs has. -/
theorem runs_facts {legs : List LegD} {off : List Int} {ch leg : Int} {D : Nat} (h : runsOnB legs off ch leg D = true) : ∃ (n : Nat) (x : LegD), leg = (n : Int) ∧ n < legs.length ∧ legs[n]? = some x ∧ D ≤ 60 ∧ startT legs leg D = (D : Int) * 1440 + x.start ∧ endT legs leg D = startT legs leg D + x.takes ∧ (0 ≤ x.start ∧ x.start ≤ 1439) ∧ (1 ≤ x.takes ∧ x.takes ≤ 4320) := by
  obtain ⟨hn, n, rfl, hlt, d0, d1⟩ := runsOn_some h
  have hx : legs[n]? = some legs[n] := List.getElem?_eq_getElem hlt
  obtain ⟨b1, b2⟩ := netB_start hn hx
  have e : startT legs (n : Int) D = (D : Int) * 1440 + legs[n].start := by unfold startT; simp [hlt]
  refine ⟨n, legs[n], rfl, hlt, hx, by omega, e, ?_, b1, b2⟩
  unfold endT; simp [hlt]
theorem next_none {legs : List LegD} {off : List Int} {ch leg q : Int} (h : nextF legs off ch leg q = false) : ∀ d : Nat, d ≤ 60 → runsOnB legs off ch leg d = true → startT legs leg d < q := by
  intro d hd hr
  obtain ⟨h1, h2⟩ := runsOn_parts hr
  unfold nextF at h
  rw [h1] at h
  have h3 : ¬ 0 ≤ nextD legs off leg q := by simpa using h
  rcases first_spec (pNext legs off leg q) 61 0 with ⟨_, k2⟩ | ⟨r, _, _, k3, _⟩
  · have := k2 d (by omega) (by omega)
    unfold pNext at this
    rw [h2] at this
    simp at this; omega
  · unfold nextD at h3; rw [k3] at h3; omega
theorem next_some {legs : List LegD} {off : List Int} {ch leg q : Int} (h : nextF legs off ch leg q = true) : ∃ D : Nat, D ≤ 60 ∧ nextL legs off ch leg q = leg ∧ nextE legs off ch leg q = (D : Int) ∧ runsOnB legs off ch leg D = true ∧ q ≤ startT legs leg D ∧
    (∀ d : Nat, d < D → runsOnB legs off ch leg d = true → startT legs leg d < q) ∧ nextF legs off ch leg (startT legs leg D) = true ∧ nextL legs off ch leg (startT legs leg D) = leg ∧ nextE legs off ch leg (startT legs leg D) = (D : Int) := by
  have h0 := h
  unfold nextF at h
  simp only [Bool.and_eq_true, decide_eq_true_eq] at h
  obtain ⟨hn, h3⟩ := h
  rcases first_spec (pNext legs off leg q) 61 0 with ⟨k1, _⟩ | ⟨r, _, r2, k3, k4, k5⟩
  · unfold nextD at h3; rw [k1] at h3; omega
  have k4' := k4
  unfold pNext at k4
  simp only [Bool.and_eq_true, decide_eq_true_eq] at k4
  have hr : runsOnB legs off ch leg r = true := by unfold runsOnB; rw [hn, k4.1]; rfl
  have hD : nextD legs off leg (startT legs leg r) = (r : Int) := by
    rcases first_spec (pNext legs off leg (startT legs leg r)) 61 0 with ⟨_, j2⟩ | ⟨s, _, s2, j3, j4, j5⟩
    · have := j2 r (by omega) (by omega)
      unfold pNext at this; rw [k4.1] at this; simp at this
    · unfold nextD; rw [j3]
      rcases Nat.lt_trichotomy s r with hs | hs | hs
      · unfold pNext at j4
        simp only [Bool.and_eq_true, decide_eq_true_eq] at j4
        have := startT_day legs leg r s; omega
      · rw [hs]
      · have := j5 r (by omega) hs
        unfold pNext at this; rw [k4.1] at this; simp at this
  have hF : nextF legs off ch leg (startT legs leg r) = true := nextF3 hn (by rw [hD]; omega)
  have e1 : nextD legs off leg q = (r : Int) := k3
  refine ⟨r, by omega, by unfold nextL; rw [h0]; rfl, by unfold nextE; rw [h0, e1]; rfl, hr, k4.2, fun d hd hrd => ?_, hF, by unfold nextL; rw [hF]; rfl, by unfold nextE; rw [hF, hD]; rfl⟩
  have := k5 d (by omega) hd
  unfold pNext at this
  rw [(runsOn_parts hrd).2] at this
  simp at this; omega
theorem last_none {legs : List LegD} {off : List Int} {ch leg q : Int} (h : lastF legs off ch leg q = false) : ∀ d : Nat, d ≤ 60 → runsOnB legs off ch leg d = true → q < endT legs leg d := by
  intro d hd hr
  obtain ⟨h1, h2⟩ := runsOn_parts hr
  unfold lastF at h
  rw [h1] at h
  have h3 : ¬ 0 ≤ lastD legs off leg q := by simpa using h
  rcases last_spec (pLast legs off leg q) 61 with ⟨_, k2⟩ | ⟨r, _, k3, _⟩
  · have := k2 d (by omega)
    unfold pLast at this
    rw [h2] at this
    simp at this; omega
  · unfold lastD at h3; rw [k3] at h3; omega
theorem last_some {legs : List LegD} {off : List Int} {ch leg q : Int} (h : lastF legs off ch leg q = true) : ∃ D : Nat, D ≤ 60 ∧ lastL legs off ch leg q = leg ∧ lastE legs off ch leg q = (D : Int) ∧ runsOnB legs off ch leg D = true ∧ endT legs leg D ≤ q ∧
    (∀ d : Nat, D < d → d ≤ 60 → runsOnB legs off ch leg d = true → q < endT legs leg d) ∧ lastF legs off ch leg (endT legs leg D) = true ∧ lastL legs off ch leg (endT legs leg D) = leg ∧ lastE legs off ch leg (endT legs leg D) = (D : Int) := by
  have h0 := h
  unfold lastF at h
  simp only [Bool.and_eq_true, decide_eq_true_eq] at h
  obtain ⟨hn, h3⟩ := h
  rcases last_spec (pLast legs off leg q) 61 with ⟨k1, _⟩ | ⟨r, r2, k3, k4, k5⟩
  · unfold lastD at h3; rw [k1] at h3; omega
  unfold pLast at k4
  simp only [Bool.and_eq_true, decide_eq_true_eq] at k4
  have hr : runsOnB legs off ch leg r = true := by unfold runsOnB; rw [hn, k4.1]; rfl
  have hD : lastD legs off leg (endT legs leg r) = (r : Int) := by
    rcases last_spec (pLast legs off leg (endT legs leg r)) 61 with ⟨_, j2⟩ | ⟨s, s2, j3, j4, j5⟩
    · have := j2 r (by omega)
      unfold pLast at this; rw [k4.1] at this; simp at this
    · unfold lastD; rw [j3]
      rcases Nat.lt_trichotomy s r with hs | hs | hs
      · have := j5 r hs (by omega)
        unfold pLast at this; rw [k4.1] at this; simp at this
      · rw [hs]
      · unfold pLast at j4
        simp only [Bool.and_eq_true, decide_eq_true_eq] at j4
        have := endT_day legs leg r s; omega
  have hF : lastF legs off ch leg (endT legs leg r) = true := lastF3 hn (by rw [hD]; omega)
  have e1 : lastD legs off leg q = (r : Int) := k3
  refine ⟨r, by omega, by unfold lastL; rw [h0]; rfl, by unfold lastE; rw [h0, e1]; rfl, hr, k4.2, fun d hd hd2 hrd => ?_, hF, by unfold lastL; rw [hF]; rfl, by unfold lastE; rw [hF, hD]; rfl⟩
  have := k5 d hd (by omega)
  unfold pLast at this
  rw [(runsOn_parts hrd).2] at this
  simp at this; omega
end Go.Proofs.Ytdmeinfdldiegaa
