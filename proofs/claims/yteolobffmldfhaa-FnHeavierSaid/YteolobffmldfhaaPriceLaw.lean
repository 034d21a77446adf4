/- The plain laws of prices: what a heavier parcel is charged. No condition. -/
import Derived.Test.YteolobffmldfhaaCheap
import Derived.IntWalk
namespace Go.Proofs.Yteolobffmldfhaa
open Go.RowKit Go.PlainAid
theorem go_alloc_belowH (w : World) (o : Obj) : Below w.heap.size w (w.alloc o) := (Below.refl _ _).alloc (Nat.le_refl _) o
theorem charge_mono {a b : Int} {t f : ByteArray} {wt wt' vl : Int} {xs : List Int} (h1 : parB a b t f wt xs vl = true) (h2 : parB a b t f wt' xs vl = true) (hw : wt ≤ wt') : chargeW a b t f wt xs vl ≤ chargeW a b t f wt' xs vl := by
  unfold chargeW; rw [h1, h2]; simp only [if_true]; omega
/-- What fits the heavier fits the lighter. -/
theorem fitR_mono {z s cw cw' : Int} {r : RateD} (h : cw ≤ cw') (hf : fitR z s cw' r = true) : fitR z s cw r = true := by
  unfold fitR at *
  simp only [Bool.and_eq_true, decide_eq_true_eq] at *
  exact ⟨hf.1, by omega⟩
/-- Prices don't fall along the rates of one zone and service. -/
def Rising (z s : Int) (rs : List RateD) : Prop := rs.Pairwise (fun x y => x.zone = z → x.service = s → y.zone = z → y.service = s → x.price ≤ y.price)
theorem pfind_mono {z s cw cw' : Int} (h : cw ≤ cw') : ∀ {rs : List RateD}, Rising z s rs → ∀ y, pfind z s cw' rs = some y → ∃ x, pfind z s cw rs = some x ∧ x ≤ y
  | [], _, y, hy => by simp [pfind] at hy
  | r :: q, hr, y, hy => by
    obtain ⟨h1, h2⟩ := List.pairwise_cons.1 hr
    cases hf : fitR z s cw r
    · have hf' : fitR z s cw' r = false := by
        cases e : fitR z s cw' r
        · rfl
        · rw [fitR_mono h e] at hf; cases hf
      simp only [pfind, hf'] at hy
      rw [if_neg (by simp)] at hy
      obtain ⟨x, hx, hxy⟩ := pfind_mono h h2 y hy
      exact ⟨x, by simp only [pfind, hf]; rw [if_neg (by simp)]; exact hx, hxy⟩
    · refine ⟨r.price, by simp only [pfind, hf]; rfl, ?_⟩
      cases hf' : fitR z s cw' r
      · simp only [pfind, hf'] at hy
        rw [if_neg (by simp)] at hy
        obtain ⟨r', hm, e1, e2, e3⟩ : ∃ r' ∈ q, r'.zone = z ∧ r'.service = s ∧ r'.price = y := by
          clear hr h1 h2 hf hf'
          induction q with
          | nil => simp [pfind] at hy
          | cons p q ih =>
            cases e : fitR z s cw' p
            · simp only [pfind, e] at hy
              rw [if_neg (by simp)] at hy
              obtain ⟨r', hm, q1⟩ := ih hy
              exact ⟨r', List.mem_cons_of_mem _ hm, q1⟩
            · simp only [pfind, e] at hy
              simp at hy
              unfold fitR at e
              simp only [Bool.and_eq_true, decide_eq_true_eq] at e
              exact ⟨p, List.mem_cons_self, e.1.1, e.1.2, hy⟩
        unfold fitR at hf
        simp only [Bool.and_eq_true, decide_eq_true_eq] at hf
        rw [← e3]
        exact h1 r' hm hf.1.1 hf.1.2 e1 e2
      · simp only [pfind, hf'] at hy
        simp at hy
        omega
theorem after_trans {a b c : RateD} (h1 : afterR a b = true) (h2 : afterR b c = true) : afterR a c = true := by
  rw [afterR_iff] at *; omega
theorem chain_after {zones : Int} : ∀ {rs : List RateD} {p : Option RateD}, chainB (rateOk zones) p rs = true → (∀ b, p = some b → ∀ r ∈ rs, afterR b r = true) ∧ rs.Pairwise (fun x y => afterR x y = true)
  | [], p, _ => ⟨fun b _ r hr => by simp at hr, List.Pairwise.nil⟩
  | x :: q, p, h => by
    simp only [chainB, Bool.and_eq_true] at h
    obtain ⟨h1, h2⟩ := h
    obtain ⟨i1, i2⟩ := chain_after h2
    refine ⟨fun b hb r hr => ?_, List.pairwise_cons.2 ⟨fun y hy => i1 x rfl y hy, i2⟩⟩
    subst hb
    have hbx : afterR b x = true := (rateOk_iff.1 h1).2.2.2.2.2
    rcases List.mem_cons.1 hr with rfl | hr
    · exact hbx
    · exact after_trans hbx (i1 x rfl r hr)
theorem rising_of {zones : Int} {rs : List RateD} (h : ratesB rs zones = true) (z s : Int) : Rising z s rs := by
  unfold ratesB at h
  simp only [Bool.and_eq_true] at h
  refine (chain_after h.1).2.imp ?_
  intro a b hab h1 h2 h3 h4
  rw [afterR_iff] at hab; omega
/-- A heavier parcel is never cheaper. -/
theorem heavier_law {zs : List ZoneD} {rs : List RateD} {a b : Int} {t f : ByteArray} {wt wt' vl : Int} {xs : List Int} (h1 : parB a b t f wt xs vl = true) (h2 : parB a b t f wt' xs vl = true) (hw : wt ≤ wt') {y : Int} (hy : priceOpt zs rs a b t f wt' xs vl = some y) :
    ∃ x, priceOpt zs rs a b t f wt xs vl = some x ∧ x ≤ y := by
  unfold priceOpt at *
  rw [h2] at hy
  rw [h1]
  simp only [Bool.and_true] at hy ⊢
  cases e : zonesB zs && ratesB rs (zs.length : Int)
  · rw [e] at hy; simp at hy
  · rw [e] at hy
    simp only [if_true] at hy ⊢
    simp only [Bool.and_eq_true] at e
    exact pfind_mono (charge_mono h1 h2 hw) (rising_of e.2 _ _) y hy
/-- The weight of a valid parcel and at most 255 more. -/
theorem heavier_wt {a b : Int} {t f : ByteArray} {wt d vl : Int} {xs : List Int} (h1 : parB a b t f wt xs vl = true) (h0 : 0 ≤ d) (hd : d ≤ 255) : wt ≤ IntKind.i64.wrap (wt + d) := by
  obtain ⟨-, q1, q2⟩ := parB_three h1
  rw [IntWalk.i64_in _ (by omega)]; omega
/-- What the cheapest service is, of what was tried so far. -/
theorem cheap_inv (zs : List ZoneD) (rs : List RateD) (b : Int) (t f : ByteArray) (wt : Int) (xs : List Int) (vl : Int) : ∀ n : Nat,
    ((cheapN zs rs b t f wt xs vl n).1 = 0 ∧ (cheapN zs rs b t f wt xs vl n).2 = 0 ∧ ∀ k : Nat, k < n → priceOpt zs rs ((k : Int) + 1) b t f wt xs vl = none) ∨
    (∃ j : Nat, j < n ∧ (cheapN zs rs b t f wt xs vl n).1 = (j : Int) + 1 ∧ priceOpt zs rs ((j : Int) + 1) b t f wt xs vl = some (cheapN zs rs b t f wt xs vl n).2 ∧
      (∀ k : Nat, k < n → ∀ x, priceOpt zs rs ((k : Int) + 1) b t f wt xs vl = some x → (cheapN zs rs b t f wt xs vl n).2 ≤ x ∧ (x = (cheapN zs rs b t f wt xs vl n).2 → j ≤ k)))
  | 0 => .inl ⟨rfl, rfl, fun k hk => by omega⟩
  | n + 1 => by
    have ih := cheap_inv zs rs b t f wt xs vl n
    rw [cheapN]
    cases hq : priceOpt zs rs ((n : Int) + 1) b t f wt xs vl with
    | none =>
      rw [better_none]
      rcases ih with ⟨h1, h2, h3⟩ | ⟨j, hj, h1, h2, h3⟩
      · refine .inl ⟨h1, h2, fun k hk => ?_⟩
        by_cases e : k = n
        · subst e; exact hq
        · exact h3 k (by omega)
      · refine .inr ⟨j, by omega, h1, h2, fun k hk x hx => ?_⟩
        by_cases e : k = n
        · subst e; rw [hq] at hx; cases hx
        · exact h3 k (by omega) x hx
    | some x0 =>
      rcases ih with ⟨h1, h2, h3⟩ | ⟨j, hj, h1, h2, h3⟩
      · rw [better_take (.inl (by rw [h1]; rfl))]
        refine .inr ⟨n, by omega, rfl, hq, fun k hk x hx => ?_⟩
        by_cases e : k = n
        · subst e; rw [hq] at hx; injection hx with hx; subst hx; exact ⟨Int.le_refl _, fun _ => Nat.le_refl _⟩
        · rw [h3 k (by omega)] at hx; cases hx
      · by_cases hlt : x0 < (cheapN zs rs b t f wt xs vl n).2
        · rw [better_take (.inr (decide_eq_true hlt))]
          refine .inr ⟨n, by omega, rfl, hq, fun k hk x hx => ?_⟩
          by_cases e : k = n
          · subst e; rw [hq] at hx; injection hx with hx; subst hx; exact ⟨Int.le_refl _, fun _ => Nat.le_refl _⟩
          · have := (h3 k (by omega) x hx).1
            exact ⟨by simp only; omega, fun e => by simp only at e; omega⟩
        · rw [better_keep (by rw [h1]; simp; omega) (decide_eq_false hlt)]
          refine .inr ⟨j, by omega, h1, h2, fun k hk x hx => ?_⟩
          by_cases e : k = n
          · subst e; rw [hq] at hx; injection hx with hx; subst hx; exact ⟨by omega, fun _ => by omega⟩
          · exact h3 k (by omega) x hx
end Go.Proofs.Yteolobffmldfhaa
