/- What the reference's AreRates answers. No condition. -/
import Derived.Test.YteolobffmldfhaaRatesI
namespace Go.Proofs.Yteolobffmldfhaa
open Go.RowKit Go.PlainAid
set_option maxRecDepth 100000
set_option linter.unusedVariables false
set_option maxHeartbeats 3200000 in
theorem l2After_any (z' s' l' p' z s l p : Int) (w : World) : Calls Try.prog 94 #[.agg #[.int .i64 z', .int .i64 s', .int .i64 l', .int .i64 p'], .agg #[.int .i64 z, .int .i64 s, .int .i64 l, .int .i64 p]] w fun e w' => e = .returned (.bool (afterR ⟨z', s', l', p'⟩ ⟨z, s, l, p⟩)) ∧ Below w.heap.size w w' := by
  by_cases h1 : z' < z
  · have H : Hid (afterR ⟨z', s', l', p'⟩ ⟨z, s, l, p⟩ = true) := Lib.hid (afterR_iff.2 (by simp only; omega))
    go_enter Try.func94, Try.ntmps94
    go_wp2
    go_ret
    exact ⟨ret_bool H.out.symm, by go_grown⟩
  by_cases h2 : z = z'
  · subst h2
    by_cases h3 : s' < s
    · have H : Hid (afterR ⟨z, s', l', p'⟩ ⟨z, s, l, p⟩ = true) := Lib.hid (afterR_iff.2 (.inr ⟨rfl, .inl h3⟩))
      go_enter Try.func94, Try.ntmps94
      go_wp2
      go_ret
      exact ⟨ret_bool H.out.symm, by go_grown⟩
    by_cases h4 : s = s'
    · subst h4
      by_cases h5 : l' < l
      · by_cases h6 : p' ≤ p
        · have H : Hid (afterR ⟨z, s, l', p'⟩ ⟨z, s, l, p⟩ = true) := Lib.hid (afterR_iff.2 (.inr ⟨rfl, .inr ⟨rfl, h5, h6⟩⟩))
          go_enter Try.func94, Try.ntmps94
          go_wp2
          go_ret
          exact ⟨ret_bool H.out.symm, by go_grown⟩
        · have H : Hid (afterR ⟨z, s, l', p'⟩ ⟨z, s, l, p⟩ = false) := Lib.hid (afterR_not (by simp only; omega))
          go_enter Try.func94, Try.ntmps94
          go_wp2
          go_ret
          exact ⟨ret_bool H.out.symm, by go_grown⟩
      · have H : Hid (afterR ⟨z, s, l', p'⟩ ⟨z, s, l, p⟩ = false) := Lib.hid (afterR_not (by simp only; omega))
        go_enter Try.func94, Try.ntmps94
        go_wp2
        go_ret
        exact ⟨ret_bool H.out.symm, by go_grown⟩
    · have n4 : (s == s') = false := by simp [h4]
      have H : Hid (afterR ⟨z, s', l', p'⟩ ⟨z, s, l, p⟩ = false) := Lib.hid (afterR_not (by simp only; omega))
      go_enter Try.func94, Try.ntmps94
      go_wp2
      go_ret
      exact ⟨ret_bool H.out.symm, by go_grown⟩
  · have n2 : (z == z') = false := by simp [h2]
    have H : Hid (afterR ⟨z', s', l', p'⟩ ⟨z, s, l, p⟩ = false) := Lib.hid (afterR_not (by simp only; omega))
    go_enter Try.func94, Try.ntmps94
    go_wp2
    go_ret
    exact ⟨ret_bool H.out.symm, by go_grown⟩
set_option maxHeartbeats 6400000 in
theorem areRatesS (xs : List RateD) (zones : Int) (v : Value) (w : World) (hok : ∀ x ∈ xs, x.ok) (hzn : okI zones) (h : SliceOf w 4 RateD.vals v xs) : Calls Try.prog 77 #[v, .int .i64 zones] w fun e w' => e = .returned (.bool (ratesB xs zones)) ∧ Below w.heap.size w w' := by
  obtain ⟨A, c, rfl, hl, hm⟩ := h.form
  unfold maxLen at hm
  go_enter Try.func77, Try.ntmps77
  go_wp2
  go_loopw [5] (fun i wr => ∃ k : Nat, k ≤ xs.length ∧ i = .int .i64 k ∧ Below w.heap.size w wr ∧ Hid (∀ (j : Nat) (z : RateD), j < k → xs[j]? = some z → rateOk zones (prevAt xs none j) z = true)) (fun i _ => xs.length - (intOf i).toNat)
  case atStart => exact ⟨0, Nat.zero_le _, rfl, Below.refl _ _, fun j z hj => by omega⟩
  case round =>
    obtain ⟨k, hk, rfl, hB, H⟩ := hrel
    by_cases hlt : k < xs.length
    · obtain ⟨b_, off, x, rfl, hb_, hx, hc⟩ := h.cells hlt
      obtain ⟨z, s, l, p⟩ := x
      have c0 : wr.cell? ⟨b_, off + k * 4, none⟩ = some (.int .i64 z) := (hB.cell (p := ⟨b_, _, none⟩) hb_).trans (hc 0 _ rfl)
      have c1 : wr.cell? ⟨b_, off + k * 4 + 1, none⟩ = some (.int .i64 s) := (hB.cell (p := ⟨b_, _, none⟩) hb_).trans (hc 1 _ rfl)
      have c2 : wr.cell? ⟨b_, off + k * 4 + 2, none⟩ = some (.int .i64 l) := (hB.cell (p := ⟨b_, _, none⟩) hb_).trans (hc 2 _ rfl)
      have c3 : wr.cell? ⟨b_, off + k * 4 + 3, none⟩ = some (.int .i64 p) := (hB.cell (p := ⟨b_, _, none⟩) hb_).trans (hc 3 _ rfl)
      clear hc
      by_cases q1 : z < 0
      · skip
        go_wp2
        go_quiet ((go_at_call 62; exact quiet_left (l1In_any _ _ _ _)))
        go_wp2
        go_ret
        exact ⟨ret_bool (ratesB_bad hx.out (rateOk_not (fun h => by have := h.1; simp only at this; omega))).symm, below_drewN hB _⟩
      by_cases q2 : zones ≤ z
      · have n1 : decide (z < 0) = false := by simpa using q1
        go_wp2
        go_quiet ((go_at_call 62; exact quiet_left (l1In_any _ _ _ _)))
        go_wp2
        go_ret
        exact ⟨ret_bool (ratesB_bad hx.out (rateOk_not (fun h => by have := h.2.1; simp only at this; omega))).symm, below_drewN hB _⟩
      have n1 : decide (z < 0) = false := by simpa using q1
      have n2 : decide (zones ≤ z) = false := by simpa using q2
      cases q3 : rng s 1 3
      · skip
        go_wp2
        go_quiet ((go_at_call 62; exact quiet_left (l1In_any _ _ _ _)))
        go_wp2
        go_ret
        exact ⟨ret_bool (ratesB_bad hx.out (rateOk_not (fun h => by have := h.2.2.1; simp only [q3] at this; cases this))).symm, below_drewN hB _⟩
      cases q4 : rng l 1 1000000000
      · skip
        go_wp2
        go_quiet ((go_at_call 62; exact quiet_left (l1In_any _ _ _ _)))
        go_wp2
        go_ret
        exact ⟨ret_bool (ratesB_bad hx.out (rateOk_not (fun h => by have := h.2.2.2.1; simp only [q4] at this; cases this))).symm, below_drewN hB _⟩
      cases q5 : rng p 0 100000
      · skip
        go_wp2
        go_quiet ((go_at_call 62; exact quiet_left (l1In_any _ _ _ _)))
        go_wp2
        go_ret
        exact ⟨ret_bool (ratesB_bad hx.out (rateOk_not (fun h => by have := h.2.2.2.2.1; simp only [q5] at this; cases this))).symm, below_drewN hB _⟩
      rcases k with _ | m
      · simp only [Nat.zero_mul, Nat.add_zero] at c0 c1 c2 c3
        go_wp2
        go_quiet ((go_at_call 62; exact quiet_left (l1In_any _ _ _ _)))
        go_wp2
        go_roundw
        case rel => exact ⟨0 + 1, by omega, by go_num, below_drewN hB _, fun j z hj hz => by
          by_cases e : j = 0
          · subst e
            obtain rfl : _ = z := by have := hx.out.symm.trans hz; injection this
            exact rateOk_iff.2 ⟨by simp only; omega, by simp only; omega, q3, q4, q5, rfl⟩
          · exact H.out j z (by omega) hz⟩
        case measure => simp [intOf]; omega
      · obtain ⟨b2, off2, y, e2, hb2, hy, hd⟩ := h.cells (k := m) (by omega)
        injection e2 with e2
        injection e2 with e3 e4
        subst e3 e4
        obtain ⟨z', s', l', p'⟩ := y
        have d0 : wr.cell? ⟨b_, off + m * 4, none⟩ = some (.int .i64 z') := (hB.cell (p := ⟨b_, _, none⟩) hb_).trans (hd 0 _ rfl)
        have d1 : wr.cell? ⟨b_, off + m * 4 + 1, none⟩ = some (.int .i64 s') := (hB.cell (p := ⟨b_, _, none⟩) hb_).trans (hd 1 _ rfl)
        have d2 : wr.cell? ⟨b_, off + m * 4 + 2, none⟩ = some (.int .i64 l') := (hB.cell (p := ⟨b_, _, none⟩) hb_).trans (hd 2 _ rfl)
        have d3 : wr.cell? ⟨b_, off + m * 4 + 3, none⟩ = some (.int .i64 p') := (hB.cell (p := ⟨b_, _, none⟩) hb_).trans (hd 3 _ rfl)
        clear hd
        have hla : prevAt xs none (m + 1) = some ⟨z', s', l', p'⟩ := hy.out
        have HLA := Lib.hid hla; clear hla
        have wm : IntKind.i64.wrap (m : Int) = (m : Int) := IntWalk.i64_in _ (by omega)
        have hm0 : (m : Int) < (xs.length : Int) := by omega
        have hm1 : (m : Int) + 1 < (xs.length : Int) := by omega
        have hm2 : (0 : Int) ≤ (m : Int) + 1 := by omega
        have hm3 : (0 : Int) ≤ (m : Int) := by omega
        have hmg : decide ((0 : Int) < (m : Int) + 1) = true := decide_eq_true (by omega)
        go_wp2
        go_still_tail 55, (by kernel_rfl)
        still_call (still_left (l1In_any _ _ _ _))
        repeat still_step
        still_call (still_left (l1In_any _ _ _ _))
        repeat still_step
        still_call (still_left (l1In_any _ _ _ _))
        repeat still_step
        refine wpStill_nil ?_
        change wpList _ _ _ _ _ (World.drew _)
        cases q6 : afterR ⟨z', s', l', p'⟩ ⟨z, s, l, p⟩
        · go_wp2_with (go_at_call 94; refine (l2After_any _ _ _ _ _ _ _ _ _).mono ?_; rintro e w1 ⟨rfl, b1⟩)
          have B1 : Below w.heap.size w w1 := hB.drew.trans (b1.mono hB.size)
          go_ret
          exact ⟨ret_bool (ratesB_bad hx.out (rateOk_not (fun hh => by
            have h6 := hh.2.2.2.2.2
            rw [HLA.out] at h6
            rw [show afterR _ _ = true from h6] at q6
            cases q6))).symm, B1⟩
        · go_wp2_with (go_at_call 94; refine (l2After_any _ _ _ _ _ _ _ _ _).mono ?_; rintro e w1 ⟨rfl, b1⟩)
          have B1 : Below w.heap.size w w1 := hB.drew.trans (b1.mono hB.size)
          go_roundw
          case rel => exact ⟨(m + 1) + 1, by omega, by go_num, B1, fun j z hj hz => by
            by_cases e : j = (m + 1)
            · subst e
              obtain rfl : _ = z := by have := hx.out.symm.trans hz; injection this
              exact by rw [HLA.out]; exact rateOk_iff.2 ⟨by simp only; omega, by simp only; omega, q3, q4, q5, q6⟩
            · exact H.out j z (by omega) hz⟩
          case measure => simp [intOf]; omega
    · obtain rfl : k = xs.length := by omega
      have hg := ratesB_good (fun j z hj => H.out j z (List.getElem?_eq_some_iff.1 hj).1 hj)
      have HG := Lib.hid hg; clear hg
      go_wp2
      go_ret
      exact ⟨ret_bool (by rw [HG.out, decide_eq_decide]; omega), hB⟩
end Go.Proofs.Yteolobffmldfhaa
