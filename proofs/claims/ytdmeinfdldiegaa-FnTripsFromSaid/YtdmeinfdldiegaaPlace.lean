/- What IsPlace, within and l1In answer: the program's and the reference's alike. No condition. -/
import Derived.Test.YtdmeinfdldiegaaBase
namespace Go.Proofs.Ytdmeinfdldiegaa
open Go.RowKit Go.PlainAid

theorem within_any (n a b : Int) (w : World) : Calls Try.prog 53 #[.int .i64 n, .int .i64 a, .int .i64 b] w fun e w' => e = .returned (.bool (rng n a b)) ∧ w = w' := by
  by_cases h1 : a ≤ n
  · by_cases h2 : n ≤ b
    · have hr := rng_true h1 h2
      have H := Lib.hid hr; clear hr
      go_enter Try.func53, Try.ntmps53
      go_wp2
      go_ret
      exact ⟨ret_bool (by simp [H.out]), rfl⟩
    · have hr := rng_false (n := n) (a := a) (b := b) (by omega)
      have H := Lib.hid hr; clear hr
      go_enter Try.func53, Try.ntmps53
      go_wp2
      go_ret
      exact ⟨ret_bool (by simp [H.out]), rfl⟩
  · have hr := rng_false (n := n) (a := a) (b := b) (by omega)
    have H := Lib.hid hr; clear hr
    go_enter Try.func53, Try.ntmps53
    go_wp2
    go_ret
    exact ⟨ret_bool (by simp [H.out]), rfl⟩
theorem l1In_any (n a b : Int) (w : World) : Calls Try.prog 49 #[.int .i64 n, .int .i64 a, .int .i64 b] w fun e w' => e = .returned (.bool (rng n a b)) ∧ w = w' := by
  by_cases h1 : a ≤ n
  · by_cases h2 : n ≤ b
    · have hr := rng_true h1 h2
      have H := Lib.hid hr; clear hr
      go_enter Try.func49, Try.ntmps49
      go_wp2
      go_ret
      exact ⟨ret_bool (by simp [H.out]), rfl⟩
    · have hr := rng_false (n := n) (a := a) (b := b) (by omega)
      have H := Lib.hid hr; clear hr
      go_enter Try.func49, Try.ntmps49
      go_wp2
      go_ret
      exact ⟨ret_bool (by simp [H.out]), rfl⟩
  · have hr := rng_false (n := n) (a := a) (b := b) (by omega)
    have H := Lib.hid hr; clear hr
    go_enter Try.func49, Try.ntmps49
    go_wp2
    go_ret
    exact ⟨ret_bool (by simp [H.out]), rfl⟩

theorem isPlaceI (s : ByteArray) (w : World) (hs : s.size ≤ maxLen) : Calls Try.prog 64 #[.string s] w fun e w' => e = .returned (.bool (plc s)) ∧ w = w' := by
  unfold maxLen at hs
  have hb := get_bt s
  go_enter Try.func64, Try.ntmps64
  go_wp2
  go_loop [3] (fun i => ∃ k : Nat, k ≤ s.size ∧ i = .int .i64 k ∧ Hid (∀ j, j < k → 65 ≤ bt s j ∧ bt s j ≤ 90)) (fun i => s.size - (intOf i).toNat)
  case atStart => exact ⟨0, Nat.zero_le _, rfl, fun j hj => by omega⟩
  case round =>
    obtain ⟨k, hk, rfl, H⟩ := hrel
    by_cases hlt : k < s.size
    · by_cases h1 : 65 ≤ bt s k
      · by_cases h2 : bt s k ≤ 90
        · go_wp2
          go_round
          case rel => exact ⟨k + 1, by omega, by go_num, fun j hj => by rcases Nat.lt_succ_iff_lt_or_eq.1 hj with h | rfl; exact H.out j h; exact ⟨h1, h2⟩⟩
          case measure => simp [intOf]; omega
        · go_wp2
          go_ret
          exact ⟨ret_bool (plc_false (fun h => by have := h.2 k hlt; omega)).symm, rfl⟩
      · go_wp2
        go_ret
        exact ⟨ret_bool (plc_false (fun h => by have := h.2 k hlt; omega)).symm, rfl⟩
    · obtain rfl : k = s.size := by omega
      go_wp2
      go_ret
      refine ⟨ret_bool ?_, rfl⟩
      by_cases h3 : s.size = 3
      · rw [plc_true h3 H.out]; simp [h3]
      · rw [plc_false (fun h => h3 h.1)]; simp; omega
theorem isPlaceS (s : ByteArray) (w : World) (hs : s.size ≤ maxLen) : Calls Try.prog 63 #[.string s] w fun e w' => e = .returned (.bool (plc s)) ∧ w = w' := by
  unfold maxLen at hs
  have hb := get_bt s
  by_cases h3 : s.size = 3
  · have h3' : ((s.size : Int) != 3) = false := by rw [h3]; rfl
    have hge : 3 ≤ s.size := by omega
    have H3 := Lib.hid h3; clear h3
    go_enter Try.func63, Try.ntmps63
    go_wp2
    go_loop [3] (fun i => ∃ k : Nat, k ≤ 3 ∧ i = .int .i64 k ∧ Hid (∀ j, j < k → 65 ≤ bt s j ∧ bt s j ≤ 90)) (fun i => 3 - (intOf i).toNat)
    case atStart => exact ⟨0, Nat.zero_le _, rfl, fun j hj => by omega⟩
    case round =>
      obtain ⟨k, hk, rfl, H⟩ := hrel
      by_cases hlt : k < 3
      · have hb0 := bt_nonneg s k
        have hb1 := bt_le s k
        by_cases hr : 65 ≤ bt s k ∧ bt s k ≤ 90
        · have e1 : rng (bt s k) 65 90 = true := rng_true hr.1 hr.2
          go_wp2_with (go_at_call 49; refine (l1In_any _ _ _ _).mono ?_; rintro e w' ⟨rfl, rfl⟩)
          go_round
          case rel => exact ⟨k + 1, by omega, by go_num, fun j hj => by rcases Nat.lt_succ_iff_lt_or_eq.1 hj with h | rfl; exact H.out j h; exact hr⟩
          case measure => simp [intOf]; omega
        · have e1 : rng (bt s k) 65 90 = false := rng_false (by omega)
          go_wp2_with (go_at_call 49; refine (l1In_any _ _ _ _).mono ?_; rintro e w' ⟨rfl, rfl⟩)
          go_ret
          exact ⟨ret_bool (plc_false (fun h => by have := h.2 k (by omega); omega)).symm, rfl⟩
      · obtain rfl : k = 3 := by omega
        go_wp2
        go_ret
        exact ⟨ret_bool (plc_true H3.out (by rw [H3.out]; exact H.out)).symm, rfl⟩
  · have h3' : ((s.size : Int) != 3) = true := by simp; omega
    go_enter Try.func63, Try.ntmps63
    go_wp2
    go_ret
    exact ⟨ret_bool (plc_false (fun h => h3 h.1)).symm, rfl⟩
end Go.Proofs.Ytdmeinfdldiegaa
