/- Hours and minutes read: the program's readClock and the reference's l3Minute. No condition. -/
import Derived.Test.YtemlgfbfomkdaaaDoorTimeLaw
import Derived.IntWalk
namespace Go.Proofs.YtemlgfbfomkdaaaDoor
open Go.RowKit Go.PlainAid
open Go.Lib (itoa decDigits decDigits_two)
set_option maxRecDepth 100000
set_option linter.unusedVariables false
def CPost (l : List UInt8) (w : World) (e : Ending) (w' : World) : Prop := ∃ m : Int, e = .returned (.int .i64 m) ∧ Hid (IsClock l m) ∧ -1 ≤ m ∧ m ≤ 1439 ∧ Below w.heap.size w w'
theorem CPost.of {l : List UInt8} {w w' : World} {m : Int} (h : IsClock l m) (b : Below w.heap.size w w') : CPost l w (.returned (.int .i64 m)) w' := ⟨m, rfl, h, h.bd.1, h.bd.2, b⟩
theorem clock_len_no {l : List UInt8} (h : l.length ≠ 5) : IsClock l (-1) := .inr ⟨rfl, fun k k0 k1 e => h (by rw [← e]; exact clock_len k0 k1)⟩
set_option maxHeartbeats 3200000 in
theorem readClockI (s : ByteArray) (w : World) (hs : s.size ≤ maxLen) (ht : Tabs w) : Calls Tryd.prog 22 #[.string s] w (CPost s.data.toList w) := by
  unfold maxLen at hs
  have hl := data_len s
  by_cases h5 : s.size = 5
  · have h5' : ((s.size : Int) != 5) = false := by simp; omega
    have HL := Lib.hid hl; clear hl
    have H5 := Lib.hid h5; clear h5
    go_enter Tryd.func22, Tryd.ntmps22
    go_wp2_with fail
    go_loopw [3] (fun mv wr => ∃ k : Nat, k ≤ 1440 ∧ mv = .int .i64 k ∧ Hid (∀ j : Int, 0 ≤ j → j < k → clockL j ≠ s.data.toList) ∧ Tabs wr ∧ Below w.heap.size w wr) (fun mv _ => 1440 - (intOf mv).toNat)
    case atStart => exact ⟨0, by omega, rfl, Lib.hid (fun j h0 h1 => by omega), ht, Below.refl _ _⟩
    case round =>
      obtain ⟨k, hk, rfl, HN, hT, hB⟩ := hrel
      by_cases hlt : k < 1440
      · have hlt' : (k : Int) < 1440 := by omega
        go_wp2_with fail
        refine (clockI (k : Int) _ (by omega) (by omega) hT).mono ?_
        rintro e w1 ⟨r, rfl, Hr, hr, b1⟩
        have HR := Lib.hid hr; clear hr
        have B1 := chain hB b1
        cases q : (r.toList == s.toList)
        · have hd := diff_list Hr.out q
          have HD := Lib.hid hd; clear hd
          go_wp2_with fail
          go_roundw
          case rel => exact ⟨k + 1, by omega, by go_num, Lib.hid (fun j h0 h1 => by
            by_cases e : j = k
            · subst e; exact HD.out
            · exact HN.out j h0 (by omega)), hT.keep b1, B1⟩
          case measure => simp [intOf]; omega
        · have hd := same_list Hr.out q
          have HD := Lib.hid hd; clear hd
          go_wp2_with fail
          go_ret
          exact CPost.of (.inl ⟨by omega, by omega, HD.out⟩) B1
      · obtain rfl : k = 1440 := by omega
        have hlt' : ¬ ((1440 : Nat) : Int) < 1440 := by omega
        go_wp2_with fail
        go_ret
        exact CPost.of (.inr ⟨rfl, fun j h0 h1 => HN.out j h0 (by omega)⟩) hB
  · have h5' : ((s.size : Int) != 5) = true := by simp; omega
    have HC := Lib.hid (clock_len_no (l := s.data.toList) (by omega)); clear hl
    go_enter Tryd.func22, Tryd.ntmps22
    go_wp2_with fail
    go_ret
    exact CPost.of HC.out (Below.refl _ _)
/-- What the reference reckons of five letters. -/
def minN (l : List UInt8) : Nat → Int
  | 0 => 0
  | i + 1 => if i = 2 then minN l i else 10 * minN l i + (((l[i]?).getD 0).toNat : Int) - 48
theorem minN_bd (l : List UInt8) : (-48 ≤ minN l 1 ∧ minN l 1 ≤ 207) ∧ (-528 ≤ minN l 2 ∧ minN l 2 ≤ 2277) ∧ (-528 ≤ minN l 3 ∧ minN l 3 ≤ 2277) ∧ (-5328 ≤ minN l 4 ∧ minN l 4 ≤ 22977) ∧ (-53328 ≤ minN l 5 ∧ minN l 5 ≤ 229977) := by
  have h : ∀ i : Nat, (0 : Int) ≤ (((l[i]?).getD 0).toNat : Int) ∧ (((l[i]?).getD 0).toNat : Int) ≤ 255 := fun i => ⟨by omega, by have := ((l[i]?).getD 0).toNat_lt; omega⟩
  have h0 := h 0; have h1 := h 1; have h3 := h 3; have h4 := h 4
  have e1 : minN l 1 = 10 * 0 + (((l[0]?).getD 0).toNat : Int) - 48 := rfl
  have e2 : minN l 2 = 10 * minN l 1 + (((l[1]?).getD 0).toNat : Int) - 48 := rfl
  have e3 : minN l 3 = minN l 2 := rfl
  have e4 : minN l 4 = 10 * minN l 3 + (((l[3]?).getD 0).toNat : Int) - 48 := rfl
  have e5 : minN l 5 = 10 * minN l 4 + (((l[4]?).getD 0).toNat : Int) - 48 := rfl
  omega
theorem minN_clock {k : Int} (h0 : 0 ≤ k) (h1 : k ≤ 1439) : minN (clockL k) 5 = 100 * (k / 60) + k % 60 := by
  obtain ⟨c0, c1, c3, c4, e, v1, v2, -⟩ := clock_parts h0 h1
  rw [e]
  have e1 : minN [c0, c1, 58, c3, c4] 5 = 10 * (10 * (10 * (10 * 0 + (c0.toNat : Int) - 48) + (c1.toNat : Int) - 48) + (c3.toNat : Int) - 48) + (c4.toNat : Int) - 48 := rfl
  rw [e1]; omega
theorem minN_step (l : List UInt8) {k : Nat} (h : k ≠ 2) : minN l (k + 1) = 10 * minN l k + (((l[k]?).getD 0).toNat : Int) - 48 := if_neg h
theorem minN_skip (l : List UInt8) : minN l (2 + 1) = minN l 2 := rfl
theorem minN_all (l : List UInt8) {k : Nat} (h : k ≤ 5) : -60000 ≤ minN l k ∧ minN l k ≤ 230000 := by
  obtain ⟨h1, h2, h3, h4, h5⟩ := minN_bd l
  have h0 : minN l 0 = 0 := rfl
  rcases (show k = 0 ∨ k = 1 ∨ k = 2 ∨ k = 3 ∨ k = 4 ∨ k = 5 by omega) with rfl | rfl | rfl | rfl | rfl | rfl <;> omega
theorem get_letter (s : ByteArray) {k : Nat} (h : k < s.size) : ((s.data.toList[k]?).getD 0) = s[k] := by
  rw [List.getElem?_eq_getElem (by simpa using h)]; rfl
theorem minute_no {l : List UInt8} {n m : Int} (hn : n = minN l 5) (hm : m = n.tdiv 100 * 60 + n.tmod 100) (h : m < 0 ∨ 1439 < m ∨ clockL m ≠ l) : IsClock l (-1) := by
  refine .inr ⟨rfl, fun k k0 k1 e => ?_⟩
  have hk := minN_clock k0 k1
  rw [e, ← hn] at hk
  have e1 : n.tdiv 100 = k / 60 := by rw [Int.tdiv_eq_ediv_of_nonneg (by omega)]; omega
  have e2 : n.tmod 100 = k % 60 := by rw [Int.tmod_eq_emod_of_nonneg (by omega)]; omega
  have e3 : m = k := by rw [hm, e1, e2]; omega
  rcases h with h | h | h
  · omega
  · omega
  · rw [e3] at h; exact h e
theorem td_bd {n : Int} (h0 : -60000 ≤ n) (h1 : n ≤ 230000) : -700 ≤ n.tdiv 100 ∧ n.tdiv 100 ≤ 2400 ∧ -100 < n.tmod 100 ∧ n.tmod 100 < 100 := by
  have e := Int.mul_tdiv_add_tmod n 100
  have a := Int.tmod_lt_of_pos n (show (0 : Int) < 100 by omega)
  have b := Int.lt_tmod_of_pos n (show (0 : Int) < 100 by omega)
  omega
set_option maxHeartbeats 3200000 in
theorem minuteS (s : ByteArray) (w : World) (hs : s.size ≤ maxLen) (ht : Tabs w) : Calls Tryd.prog 19 #[.string s] w (CPost s.data.toList w) := by
  unfold maxLen at hs
  have hl := data_len s
  by_cases h5 : s.size = 5
  · have h5' : ((s.size : Int) != 5) = false := by simp; omega
    have h5l : 5 ≤ s.size := by omega
    have HL := Lib.hid hl; clear hl
    have H5 := Lib.hid h5; clear h5
    go_enter Tryd.func19, Tryd.ntmps19
    go_wp2_with fail
    go_loop [3, 4] (fun nv iv => ∃ k : Nat, k ≤ 5 ∧ iv = .int .i64 k ∧ nv = .int .i64 (minN s.data.toList k)) (fun _ iv => 5 - (intOf iv).toNat)
    case atStart => exact ⟨0, by omega, rfl, rfl⟩
    case round =>
      obtain ⟨k, hk, rfl, rfl⟩ := hrel
      obtain ⟨b0, b1⟩ := minN_all s.data.toList hk
      by_cases hlt : k < 5
      · have hlt' : (k : Int) < 5 := by omega
        have hks : k < s.size := by omega
        by_cases h2 : k = 2
        · subst h2
          obtain ⟨n, hn⟩ : ∃ n, n = minN s.data.toList 2 := ⟨_, rfl⟩
          rw [← hn] at b0 b1 ⊢
          have HN := Lib.hid hn; clear hn
          go_wp2_with fail
          go_round
          case rel => exact ⟨3, by omega, by go_num, by rw [HN.out]; rfl⟩
          case measure => simp [intOf]
        · have h2' : ((k : Int) != 2) = true := by simp; omega
          have hst := minN_step s.data.toList h2
          rw [get_letter s hks] at hst
          obtain ⟨n, hn⟩ : ∃ n, n = minN s.data.toList k := ⟨_, rfl⟩
          rw [← hn] at b0 b1 hst ⊢
          have HN := Lib.hid hn; clear hn
          have HST := Lib.hid hst; clear hst
          have c1 : (s[k].toNat : Int) ≤ 255 := by have := s[k].toNat_lt; omega
          have c0 : (0 : Int) ≤ (s[k].toNat : Int) := by omega
          have k0 : (0 : Int) ≤ (k : Int) := by omega
          have k1 : (k : Int) < (s.size : Int) := by omega
          go_wp2_with fail
          go_round
          case rel => exact ⟨k + 1, by omega, by go_num, by rw [HST.out]⟩
          case measure => simp [intOf]; omega
      · obtain rfl : k = 5 := by omega
        have hlt' : ¬ ((5 : Nat) : Int) < 5 := by omega
        obtain ⟨n, hn⟩ : ∃ n, n = minN s.data.toList 5 := ⟨_, rfl⟩
        rw [← hn] at b0 b1 ⊢
        have HN := Lib.hid hn; clear hn
        obtain ⟨d0, d1, d2, d3⟩ := td_bd b0 b1
        obtain ⟨m, hm⟩ : ∃ m, m = wrap64 (wrap64 (n.tdiv 100 * 60) + n.tmod 100) := ⟨_, rfl⟩
        have hm2 : m = n.tdiv 100 * 60 + n.tmod 100 := by rw [hm]; unfold wrap64; omega
        have HM2 := Lib.hid hm2; clear hm2
        have HM := Lib.hid hm; clear hm
        clear d0 d1 d2 d3
        go_wp2_with fail
        rw [← HM.out]
        refine (l1In_any _ _ _ _).mono ?_
        rintro e w' ⟨rfl, rfl⟩
        cases hr : rng m 0 1439
        · have hb : m < 0 ∨ 1439 < m := by
            rcases Int.lt_or_le m 0 with h | h
            · exact .inl h
            · refine .inr (Int.lt_of_not_ge fun h2 => ?_)
              rw [rng_true h h2] at hr; cases hr
          have HF := Lib.hid (minute_no (l := s.data.toList) HN.out HM2.out (by rcases hb with h | h; exact .inl h; exact .inr (.inl h)))
          clear hb hr
          go_wp2_with fail
          go_ret
          exact CPost.of HF.out (Below.refl _ _)
        · obtain ⟨m0, m1⟩ := rng_iff.1 hr
          clear hr
          go_wp2_with fail
          refine (clockS m _ m0 m1 ht).mono ?_
          rintro e w1 ⟨r, rfl, Hr, hr', b1'⟩
          have HR := Lib.hid hr'; clear hr'
          cases q : (r.toList == s.toList)
          · have hd := diff_list Hr.out q
            have HF := Lib.hid (minute_no (l := s.data.toList) HN.out HM2.out (.inr (.inr hd))); clear hd
            have q' : (r.toList != s.toList) = true := by simp [bne, q]
            go_wp2_with fail
            go_ret
            exact CPost.of HF.out b1'
          · have hd := same_list Hr.out q
            have HD := Lib.hid hd; clear hd
            have q' : (r.toList != s.toList) = false := by simp [bne, q]
            go_wp2_with fail
            go_ret
            exact CPost.of (.inl ⟨m0, m1, HD.out⟩) b1'
  · have h5' : ((s.size : Int) != 5) = true := by simp; omega
    have HC := Lib.hid (clock_len_no (l := s.data.toList) (by omega)); clear hl
    go_enter Tryd.func19, Tryd.ntmps19
    go_wp2_with fail
    go_ret
    exact CPost.of HC.out (Below.refl _ _)
end Go.Proofs.YtemlgfbfomkdaaaDoor
