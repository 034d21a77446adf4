/- What AreRates answers: the program's and the reference's alike. No condition. -/
import Derived.Test.YteolobffmldfhaaRecRate
import Derived.Test.YteolobffmldfhaaCmp
import Derived.Test.YteolobffmldfhaaChainB
namespace Go.Proofs.Yteolobffmldfhaa
open Go.RowKit Go.PlainAid
set_option maxRecDepth 100000
set_option linter.unusedVariables false
/-- A rate behind another in the list. -/
def afterR (b r : RateD) : Bool := decide (b.zone < r.zone) || decide (b.zone = r.zone) && (decide (b.service < r.service) || decide (b.service = r.service) && decide (b.limit < r.limit) && decide (b.price ≤ r.price))
def rateOk (zones : Int) (p : Option RateD) (r : RateD) : Bool := decide (0 ≤ r.zone) && decide (r.zone < zones) && rng r.service 1 3 && rng r.limit 1 1000000000 && rng r.price 0 100000 && (match p with | none => true | some b => afterR b r)
def ratesB (xs : List RateD) (zones : Int) : Bool := chainB (rateOk zones) none xs && decide (xs.length ≤ 24)
theorem ratesB_bad {xs : List RateD} {zones : Int} {k : Nat} {r : RateD} (h : xs[k]? = some r) (hz : rateOk zones (prevAt xs none k) r = false) : ratesB xs zones = false := by
  unfold ratesB; rw [chain_bad xs none k r h hz]; rfl
theorem ratesB_good {xs : List RateD} {zones : Int} (h : ∀ (k : Nat) (r : RateD), xs[k]? = some r → rateOk zones (prevAt xs none k) r = true) : ratesB xs zones = decide (xs.length ≤ 24) := by
  unfold ratesB; rw [chain_good xs none h]; rfl
theorem rateOk_iff {zones : Int} {p : Option RateD} {r : RateD} : rateOk zones p r = true ↔ 0 ≤ r.zone ∧ r.zone < zones ∧ rng r.service 1 3 = true ∧ rng r.limit 1 1000000000 = true ∧ rng r.price 0 100000 = true ∧ (match p with | none => true | some b => afterR b r) = true := by
  unfold rateOk; simp only [Bool.and_eq_true, decide_eq_true_eq, and_assoc]
theorem afterR_iff {b r : RateD} : afterR b r = true ↔ b.zone < r.zone ∨ b.zone = r.zone ∧ (b.service < r.service ∨ b.service = r.service ∧ b.limit < r.limit ∧ b.price ≤ r.price) := by
  unfold afterR; simp only [Bool.or_eq_true, Bool.and_eq_true, decide_eq_true_eq, and_assoc]
theorem afterR_not {b r : RateD} (h : ¬ (b.zone < r.zone ∨ b.zone = r.zone ∧ (b.service < r.service ∨ b.service = r.service ∧ b.limit < r.limit ∧ b.price ≤ r.price))) : afterR b r = false := by
  rw [Bool.eq_false_iff]; exact fun e => h (afterR_iff.1 e)
theorem rateOk_not {zones : Int} {p : Option RateD} {r : RateD} (h : ¬ (0 ≤ r.zone ∧ r.zone < zones ∧ rng r.service 1 3 = true ∧ rng r.limit 1 1000000000 = true ∧ rng r.price 0 100000 = true ∧ (match p with | none => true | some b => afterR b r) = true)) : rateOk zones p r = false := by
  rw [Bool.eq_false_iff]; exact fun e => h (rateOk_iff.1 e)
theorem first_lex (a b c a' b' c' : Int) : firstOf [cmpI a a', cmpI b b', cmpI c c'] < 0 ↔ a < a' ∨ a = a' ∧ (b < b' ∨ b = b' ∧ c < c') := by
  rcases (show a < a' ∨ a' < a ∨ a = a' from by omega) with h | h | h
  · simp [firstOf, cmpI_lt h, h]
  · simp [firstOf, cmpI_gt h]; omega
  · subst h
    rcases (show b < b' ∨ b' < b ∨ b = b' from by omega) with h | h | h
    · simp [firstOf, cmpI_eq, cmpI_lt h, h]
    · simp [firstOf, cmpI_eq, cmpI_gt h]; omega
    · subst h
      rcases (show c < c' ∨ c' < c ∨ c = c' from by omega) with h | h | h
      · simp [firstOf, cmpI_eq, cmpI_lt h, h]
      · simp [firstOf, cmpI_eq, cmpI_gt h]; omega
      · subst h; simp [firstOf, cmpI_eq]
set_option maxHeartbeats 6400000 in
theorem areRatesI (xs : List RateD) (zones : Int) (v : Value) (w : World) (hok : ∀ x ∈ xs, x.ok) (hzn : okI zones) (h : SliceOf w 4 RateD.vals v xs) : Calls Try.prog 74 #[v, .int .i64 zones] w fun e w' => e = .returned (.bool (ratesB xs zones)) ∧ Below w.heap.size w w' := by
  obtain ⟨A, c, rfl, hl, hm⟩ := h.form
  unfold maxLen at hm
  go_enter Try.func74, Try.ntmps74
  go_wp2
  go_loopw [10] (fun i wr => ∃ k : Nat, k ≤ xs.length ∧ i = .int .i64 k ∧ Below w.heap.size w wr ∧ Hid (∀ (j : Nat) (z : RateD), j < k → xs[j]? = some z → rateOk zones (prevAt xs none j) z = true)) (fun i _ => xs.length - (intOf i).toNat)
  case atStart => exact ⟨0, Nat.zero_le _, rfl, Below.refl _ _, fun j z hj => by omega⟩
  case round =>
    obtain ⟨k, hk, rfl, hB, H⟩ := hrel
    by_cases hlt : k < xs.length
    · obtain ⟨b_, off, x, rfl, hb_, hx, hc⟩ := h.cells hlt
      obtain ⟨z, s, l, p⟩ := x
      have c0 : wr.cell? ⟨b_, off + k * 4, none⟩ = some (.int .i64 z) := (hB.cell (p := ⟨b_, _, none⟩) hb_).trans (hc 0 _ rfl)
      have c1 : wr.cell? ⟨b_, off + k * 4 + 1, none⟩ = some (.int .i64 s) := (hB.cell (p := ⟨b_, _, none⟩) hb_).trans (hc 1 _ rfl)
      have c2 : wr.cell? ⟨b_, off + k * 4 + 2, none⟩ = some (.int .i64 l) := (hB.cell (p := ⟨b_, _, none⟩) hb_).trans (hc 2 _ rfl)
      have c3 : wr.cell? ⟨b_, off + k * 4 + 3, none⟩ = some (.int .i64 p) := (hB.cell (p := ⟨b_, _, none⟩) hb_).trans (hc 3 _ rfl)
      clear hc
      by_cases q1 : z < 0
      · skip
        go_wp2_with (go_at_call 66; refine (within_any _ _ _ _).mono ?_; rintro e w' ⟨rfl, rfl⟩)
        go_ret
        exact ⟨ret_bool (ratesB_bad hx.out (rateOk_not (fun h => by have := h.1; simp only at this; omega))).symm, hB.alloc hB.size _⟩
      by_cases q2 : zones ≤ z
      · skip
        go_wp2_with (go_at_call 66; refine (within_any _ _ _ _).mono ?_; rintro e w' ⟨rfl, rfl⟩)
        go_ret
        exact ⟨ret_bool (ratesB_bad hx.out (rateOk_not (fun h => by have := h.2.1; simp only at this; omega))).symm, hB.alloc hB.size _⟩
      cases q3 : rng s 1 3
      · skip
        go_wp2_with (go_at_call 66; refine (within_any _ _ _ _).mono ?_; rintro e w' ⟨rfl, rfl⟩)
        go_ret
        exact ⟨ret_bool (ratesB_bad hx.out (rateOk_not (fun h => by have := h.2.2.1; simp only [q3] at this; cases this))).symm, hB.alloc hB.size _⟩
      cases q4 : rng l 1 1000000000
      · skip
        go_wp2_with (go_at_call 66; refine (within_any _ _ _ _).mono ?_; rintro e w' ⟨rfl, rfl⟩)
        go_ret
        exact ⟨ret_bool (ratesB_bad hx.out (rateOk_not (fun h => by have := h.2.2.2.1; simp only [q4] at this; cases this))).symm, hB.alloc hB.size _⟩
      cases q5 : rng p 0 100000
      · skip
        go_wp2_with (go_at_call 66; refine (within_any _ _ _ _).mono ?_; rintro e w' ⟨rfl, rfl⟩)
        go_ret
        exact ⟨ret_bool (ratesB_bad hx.out (rateOk_not (fun h => by have := h.2.2.2.2.1; simp only [q5] at this; cases this))).symm, hB.alloc hB.size _⟩
      rcases k with _ | m
      · simp only [Nat.zero_mul, Nat.add_zero] at c0 c1 c2 c3
        go_wp2_with (go_at_call 66; refine (within_any _ _ _ _).mono ?_; rintro e w' ⟨rfl, rfl⟩)
        go_roundw
        case rel => exact ⟨0 + 1, by omega, by go_num, hB.alloc hB.size _, fun j z hj hz => by
          by_cases e : j = 0
          · subst e
            obtain rfl : _ = z := by have := hx.out.symm.trans hz; injection this
            exact rateOk_iff.2 ⟨by simp only; omega, by simp only; omega, q3, q4, q5, rfl⟩
          · exact H.out j z (by omega) hz⟩
        case measure => simp [intOf]; omega
      · obtain ⟨b2, off2, y, e2, hb2, hy, hd⟩ := h.cells (k := m) (by omega)
        injection e2 with e2
        injection e2 with e3 e4
        subst e3 e4
        obtain ⟨z', s', l', p'⟩ := y
        have d0 : wr.cell? ⟨b_, off + m * 4, none⟩ = some (.int .i64 z') := (hB.cell (p := ⟨b_, _, none⟩) hb_).trans (hd 0 _ rfl)
        have d1 : wr.cell? ⟨b_, off + m * 4 + 1, none⟩ = some (.int .i64 s') := (hB.cell (p := ⟨b_, _, none⟩) hb_).trans (hd 1 _ rfl)
        have d2 : wr.cell? ⟨b_, off + m * 4 + 2, none⟩ = some (.int .i64 l') := (hB.cell (p := ⟨b_, _, none⟩) hb_).trans (hd 2 _ rfl)
        have d3 : wr.cell? ⟨b_, off + m * 4 + 3, none⟩ = some (.int .i64 p') := (hB.cell (p := ⟨b_, _, none⟩) hb_).trans (hd 3 _ rfl)
        clear hd
        have hla : prevAt xs none (m + 1) = some ⟨z', s', l', p'⟩ := hy.out
        have HLA := Lib.hid hla; clear hla
        have wm : IntKind.i64.wrap (m : Int) = (m : Int) := IntWalk.i64_in _ (by omega)
        have hm0 : (m : Int) < (xs.length : Int) := by omega
        have hbw : b_ < wr.heap.size := Nat.lt_of_lt_of_le hb_ hB.size
        have FL := Lib.hid (first_lex z' s' l' z s l)
        have hne : ((m : Int) + 1 == 0) = false := by simp; omega
        go_wp2_with (go_at_call 66; refine (within_any _ _ _ _).mono ?_; rintro e w' ⟨rfl, rfl⟩)
        obtain ⟨W, hW⟩ : ∃ W, W = (wr.alloc (.cells #[.int .i64 z, .int .i64 s, .int .i64 l, .int .i64 p] 87)).alloc (.cells #[.int .i64 z', .int .i64 s', .int .i64 l', .int .i64 p'] 87) := ⟨_, rfl⟩
        rw [← hW]
        have x0 : W.cell? ⟨wr.heap.size, 0, none⟩ = some (.int .i64 z) := by rw [hW]; simp [go_sem]
        have x1 : W.cell? ⟨wr.heap.size, 1, none⟩ = some (.int .i64 s) := by rw [hW]; simp [go_sem]
        have x2 : W.cell? ⟨wr.heap.size, 2, none⟩ = some (.int .i64 l) := by rw [hW]; simp [go_sem]
        have x3 : W.cell? ⟨wr.heap.size, 3, none⟩ = some (.int .i64 p) := by rw [hW]; simp [go_sem]
        have y0 : W.cell? ⟨wr.heap.size + 1, 0, none⟩ = some (.int .i64 z') := by rw [hW]; simp [go_sem]
        have y1 : W.cell? ⟨wr.heap.size + 1, 1, none⟩ = some (.int .i64 s') := by rw [hW]; simp [go_sem]
        have y2 : W.cell? ⟨wr.heap.size + 1, 2, none⟩ = some (.int .i64 l') := by rw [hW]; simp [go_sem]
        have y3 : W.cell? ⟨wr.heap.size + 1, 3, none⟩ = some (.int .i64 p') := by rw [hW]; simp [go_sem]
        have HW : Below w.heap.size w W := by rw [hW]; exact (hB.alloc hB.size _).alloc (by have := hB.size; simp; omega) _
        have hws : wr.heap.size + 1 < W.heap.size := by rw [hW]; simp
        clear hW
        go_still_tail 15, (by kernel_rfl)
        still_call (still_left (compareInts_any _ _ _))
        repeat still_step
        still_call (still_left (compareInts_any _ _ _))
        repeat still_step
        still_call (still_left (compareInts_any _ _ _))
        repeat still_step
        refine wpStill_nil ?_
        change wpList _ _ _ _ _ (World.drew _)
        go_wp2_with fail
        refine (first_any [cmpI z' z, cmpI s' s, cmpI l' l] _ _ (slice3d _ _ _ _ _)).mono ?_
        rintro e w1 ⟨rfl, rfl⟩
        have HV : Below w.heap.size w (W.alloc (.cells #[.int .i64 (cmpI z' z), .int .i64 (cmpI s' s), .int .i64 (cmpI l' l)] 3)).drew := (HW.alloc HW.size _).drew
        have hws' : wr.heap.size < W.heap.size := by omega
        by_cases q6 : 0 ≤ firstOf [cmpI z' z, cmpI s' s, cmpI l' l]
        · go_wp2
          go_ret
          exact ⟨ret_bool (ratesB_bad hx.out (rateOk_not (fun hh => by
            have h6 := hh.2.2.2.2.2
            rw [HLA.out] at h6
            have h7 := afterR_iff.1 h6
            simp only at h7
            have := FL.out.2 (by omega)
            omega))).symm, HV⟩
        · have h8 := FL.out.1 (by omega)
          by_cases q7 : z' = z
          · have n7 : (z' == z) = true := by simp [q7]
            by_cases q8 : s' = s
            · have n8 : (s' == s) = true := by simp [q8]
              by_cases q9 : p < p'
              · have H8 := Lib.hid h8; clear h8
                have H7 := Lib.hid q7; clear q7
                have HQ8 := Lib.hid q8; clear q8
                go_wp2
                go_ret
                exact ⟨ret_bool (ratesB_bad hx.out (rateOk_not (fun hh => by
                  have h6 := hh.2.2.2.2.2
                  rw [HLA.out] at h6
                  have h7 := afterR_iff.1 h6
                  simp only at h7
                  have q7 := H7.out
                  have q8 := HQ8.out
                  omega))).symm, HV⟩
              · have H8 := Lib.hid h8; clear h8
                have H7 := Lib.hid q7; clear q7
                have HQ8 := Lib.hid q8; clear q8
                go_wp2
                go_roundw
                case rel => exact ⟨(m + 1) + 1, by omega, by go_num, HV, fun j z hj hz => by
                  by_cases e : j = (m + 1)
                  · subst e
                    obtain rfl : _ = z := by have := hx.out.symm.trans hz; injection this
                    exact by rw [HLA.out]; exact rateOk_iff.2 ⟨by simp only; omega, by simp only; omega, q3, q4, q5, afterR_iff.2 (by have q7 := H7.out; have q8 := HQ8.out; have h8 := H8.out; simp only; omega)⟩
                  · exact H.out j z (by omega) hz⟩
                case measure => simp [intOf]; omega
            · have n8 : (s' == s) = false := by simp [q8]
              have H8 := Lib.hid h8; clear h8
              have H7 := Lib.hid q7; clear q7
              have HQ8 := Lib.hid q8; clear q8
              go_wp2
              go_roundw
              case rel => exact ⟨(m + 1) + 1, by omega, by go_num, HV, fun j z hj hz => by
                by_cases e : j = (m + 1)
                · subst e
                  obtain rfl : _ = z := by have := hx.out.symm.trans hz; injection this
                  exact by rw [HLA.out]; exact rateOk_iff.2 ⟨by simp only; omega, by simp only; omega, q3, q4, q5, afterR_iff.2 (by have q7 := H7.out; have q8 := HQ8.out; have h8 := H8.out; simp only; omega)⟩
                · exact H.out j z (by omega) hz⟩
              case measure => simp [intOf]; omega
          · have n7 : (z' == z) = false := by simp [q7]
            have H8 := Lib.hid h8; clear h8
            have H7 := Lib.hid q7; clear q7
            go_wp2
            go_roundw
            case rel => exact ⟨(m + 1) + 1, by omega, by go_num, HV, fun j z hj hz => by
              by_cases e : j = (m + 1)
              · subst e
                obtain rfl : _ = z := by have := hx.out.symm.trans hz; injection this
                exact by rw [HLA.out]; exact rateOk_iff.2 ⟨by simp only; omega, by simp only; omega, q3, q4, q5, afterR_iff.2 (by have q7 := H7.out; have h8 := H8.out; simp only; omega)⟩
              · exact H.out j z (by omega) hz⟩
            case measure => simp [intOf]; omega
    · obtain rfl : k = xs.length := by omega
      have hg := ratesB_good (fun j z hj => H.out j z (List.getElem?_eq_some_iff.1 hj).1 hj)
      have HG := Lib.hid hg; clear hg
      go_wp2
      go_ret
      exact ⟨ret_bool (by rw [HG.out, decide_eq_decide]; omega), hB⟩
end Go.Proofs.Yteolobffmldfhaa
