/- The remainder of a number written in digits by 97, as the program and the reference reckon it. No condition. -/
import Derived.Test.YteicnjemaemijaaGreatDoorPlace
import Derived.Test.YteicnjemaemijaaGreatDoorArgs
namespace Go.Proofs.YteicnjemaemijaaGreatDoor
open Go.RowKit Go.PlainAid
set_option maxRecDepth 100000

def stp (n : Int) (c : UInt8) : Int := (10 * n + ((c.toNat : Int) - 48)) % 97
def m97 (l : List UInt8) : Int := l.foldl stp 0
def digC (c : UInt8) : Bool := 48 ≤ c.toNat && c.toNat ≤ 57
def digs (l : List UInt8) : Bool := l.all digC
/-- What Mod97 answers. -/
def mod97 (l : List UInt8) : Int := if digs l && !l.isEmpty then m97 l else -1
theorem stp_bd (n : Int) (c : UInt8) : 0 ≤ stp n c ∧ stp n c ≤ 96 := by unfold stp; omega
theorem m97_snoc (l : List UInt8) (c : UInt8) : m97 (l ++ [c]) = stp (m97 l) c := by unfold m97; rw [List.foldl_append]; rfl
theorem m97_bd (l : List UInt8) : 0 ≤ m97 l ∧ m97 l ≤ 96 := by
  rcases l.eq_nil_or_concat with rfl | ⟨l', c, rfl⟩
  · decide
  · rw [List.concat_eq_append, m97_snoc]; exact stp_bd _ _
theorem digs_snoc (l : List UInt8) (c : UInt8) : digs (l ++ [c]) = (digs l && digC c) := by unfold digs; simp
theorem digC_iff (c : UInt8) : digC c = true ↔ 48 ≤ (c.toNat : Int) ∧ (c.toNat : Int) ≤ 57 := by unfold digC; simp; omega
theorem take_snoc (s : ByteArray) (k : Nat) (h : k < s.size) : s.data.toList.take (k + 1) = s.data.toList.take k ++ [s[k]] := by
  rw [List.take_succ_eq_append_getElem (by simpa using h)]; rfl
theorem digs_not {l : List UInt8} {c : UInt8} (hm : c ∈ l) (hc : ¬ (48 ≤ (c.toNat : Int) ∧ (c.toNat : Int) ≤ 57)) : digs l = false := by
  unfold digs
  rw [List.all_eq_false]
  exact ⟨c, hm, fun h => hc ((digC_iff c).1 h)⟩
theorem mem_get (s : ByteArray) (k : Nat) (h : k < s.size) : s[k] ∈ s.data.toList := List.getElem_mem (l := s.data.toList) (by simpa using h)
theorem data_len (s : ByteArray) : s.data.toList.length = s.size := by simp
theorem emp_true {s : ByteArray} (h : s.size = 0) : s.data.toList.isEmpty = true := by rw [List.isEmpty_iff, ← List.length_eq_zero_iff, data_len]; exact h
theorem emp_false {s : ByteArray} (h : ¬ s.size = 0) : s.data.toList.isEmpty = false := by
  rw [Bool.eq_false_iff, Ne, List.isEmpty_iff, ← List.length_eq_zero_iff, data_len]; exact h

set_option maxHeartbeats 800000 in
theorem mod97I (s : ByteArray) (w : World) (hs : s.size ≤ maxLen) : Calls Tryz.prog 75 #[.string s] w fun e w' => e = .returned (.int .i64 (mod97 s.data.toList)) ∧ w = w' := by
  unfold maxLen at hs
  go_enter Tryz.func75, Tryz.ntmps75
  go_wp2
  go_loop [3, 4] (fun n i => ∃ k : Nat, k ≤ s.size ∧ i = .int .i64 k ∧ n = .int .i64 (m97 (s.data.toList.take k)) ∧ Hid (digs (s.data.toList.take k) = true)) (fun _ i => s.size - (intOf i).toNat)
  case atStart => exact ⟨0, Nat.zero_le _, rfl, rfl, rfl⟩
  case round =>
    obtain ⟨k, hk, rfl, rfl, H⟩ := hrel
    have hbd := m97_bd (s.data.toList.take k)
    by_cases hlt : k < s.size
    · obtain ⟨c, hc⟩ : ∃ c : UInt8, c = s[k] := ⟨_, rfl⟩
      have hcb : (c.toNat : Int) ≤ 255 := by have := c.toNat_lt; omega
      have hget : ∀ h : k < s.size, s[k]'h = c := fun _ => hc.symm
      have hts : s.data.toList.take (k + 1) = s.data.toList.take k ++ [c] := by rw [take_snoc s k hlt, hc]
      have hm : c ∈ s.data.toList := by rw [hc]; exact mem_get s k hlt
      have HT := Lib.hid hts; clear hts
      have HM := Lib.hid hm; clear hm
      clear hc
      obtain ⟨m, hmm⟩ : ∃ m, m = m97 (s.data.toList.take k) := ⟨_, rfl⟩
      rw [← hmm] at hbd ⊢
      have HMM := Lib.hid hmm; clear hmm
      by_cases h1 : 48 ≤ (c.toNat : Int)
      · by_cases h2 : (c.toNat : Int) ≤ 57
        · go_wp2
          go_round
          case rel =>
            refine ⟨k + 1, by omega, by go_num, ?_, ?_⟩
            · rw [HT.out, m97_snoc, ← HMM.out]; unfold stp; first | rfl | go_num
            · show digs (s.data.toList.take (k + 1)) = true
              rw [HT.out, digs_snoc, H.out, (digC_iff c).2 ⟨h1, h2⟩]; rfl
          case measure => simp [intOf]; omega
        · go_wp2
          go_ret
          exact ⟨ret_int (by unfold mod97; rw [digs_not HM.out (by omega)]; rfl), rfl⟩
      · go_wp2
        go_ret
        exact ⟨ret_int (by unfold mod97; rw [digs_not HM.out (by omega)]; rfl), rfl⟩
    · obtain rfl : k = s.size := by omega
      have hta : s.data.toList.take s.size = s.data.toList := List.take_of_length_le (by simp)
      rw [hta] at hbd H ⊢
      clear hta
      by_cases h0 : s.size = 0
      · have he : s.toList.isEmpty = true := by rw [Lib.toList_data]; exact emp_true h0
        have hd : s.data.toList.isEmpty = true := emp_true h0
        have HD := Lib.hid hd; clear hd
        have H0 := Lib.hid h0; clear h0
        go_wp2
        go_ret
        exact ⟨ret_int (by unfold mod97; rw [HD.out]; simp), rfl⟩
      · have he : s.toList.isEmpty = false := by rw [Lib.toList_data]; exact emp_false h0
        have hd : s.data.toList.isEmpty = false := emp_false h0
        have HD := Lib.hid hd; clear hd
        go_wp2
        go_ret
        exact ⟨ret_int (by unfold mod97; rw [HD.out, H.out]; rfl), rfl⟩
set_option maxHeartbeats 800000 in
theorem mod97S (s : ByteArray) (w : World) (hs : s.size ≤ maxLen) : Calls Tryz.prog 80 #[.string s] w fun e w' => e = .returned (.int .i64 (mod97 s.data.toList)) ∧ w = w' := by
  unfold maxLen at hs
  go_enter Tryz.func80, Tryz.ntmps80
  go_wp2
  go_loop [3, 4] (fun n i => ∃ k : Nat, k ≤ s.size ∧ i = .int .i64 k ∧ n = .int .i64 (m97 (s.data.toList.take k)) ∧ Hid (digs (s.data.toList.take k) = true)) (fun _ i => s.size - (intOf i).toNat)
  case atStart => exact ⟨0, Nat.zero_le _, rfl, rfl, rfl⟩
  case round =>
    obtain ⟨k, hk, rfl, rfl, H⟩ := hrel
    have hbd := m97_bd (s.data.toList.take k)
    by_cases hlt : k < s.size
    · obtain ⟨c, hc⟩ : ∃ c : UInt8, c = s[k] := ⟨_, rfl⟩
      have hcb : (c.toNat : Int) ≤ 255 := by have := c.toNat_lt; omega
      have hget : ∀ h : k < s.size, s[k]'h = c := fun _ => hc.symm
      have hts : s.data.toList.take (k + 1) = s.data.toList.take k ++ [c] := by rw [take_snoc s k hlt, hc]
      have hm : c ∈ s.data.toList := by rw [hc]; exact mem_get s k hlt
      have HT := Lib.hid hts; clear hts
      have HM := Lib.hid hm; clear hm
      clear hc
      obtain ⟨m, hmm⟩ : ∃ m, m = m97 (s.data.toList.take k) := ⟨_, rfl⟩
      rw [← hmm] at hbd ⊢
      have HMM := Lib.hid hmm; clear hmm
      by_cases h1 : 48 ≤ (c.toNat : Int)
      · by_cases h2 : (c.toNat : Int) ≤ 57
        · have e1 : rng (c.toNat : Int) 48 57 = true := rng_true h1 h2
          go_wp2_with (go_at_call 39; refine (l1In_any _ _ _ _).mono ?_; rintro e w' ⟨rfl, rfl⟩)
          go_round
          case rel =>
            refine ⟨k + 1, by omega, by go_num, ?_, ?_⟩
            · rw [HT.out, m97_snoc, ← HMM.out]; unfold stp; first | rfl | go_num
            · show digs (s.data.toList.take (k + 1)) = true
              rw [HT.out, digs_snoc, H.out, (digC_iff c).2 ⟨h1, h2⟩]; rfl
          case measure => simp [intOf]; omega
        · have e1 : rng (c.toNat : Int) 48 57 = false := rng_false (by omega)
          go_wp2_with (go_at_call 39; refine (l1In_any _ _ _ _).mono ?_; rintro e w' ⟨rfl, rfl⟩)
          go_ret
          exact ⟨ret_int (by unfold mod97; rw [digs_not HM.out (by omega)]; rfl), rfl⟩
      · have e1 : rng (c.toNat : Int) 48 57 = false := rng_false (by omega)
        go_wp2_with (go_at_call 39; refine (l1In_any _ _ _ _).mono ?_; rintro e w' ⟨rfl, rfl⟩)
        go_ret
        exact ⟨ret_int (by unfold mod97; rw [digs_not HM.out (by omega)]; rfl), rfl⟩
    · obtain rfl : k = s.size := by omega
      have hta : s.data.toList.take s.size = s.data.toList := List.take_of_length_le (by simp)
      rw [hta] at hbd H ⊢
      clear hta
      by_cases h0 : s.size = 0
      · have he : s.toList.isEmpty = true := by rw [Lib.toList_data]; exact emp_true h0
        have hd : s.data.toList.isEmpty = true := emp_true h0
        have HD := Lib.hid hd; clear hd
        have H0 := Lib.hid h0; clear h0
        go_wp2
        go_ret
        exact ⟨ret_int (by unfold mod97; rw [HD.out]; simp), rfl⟩
      · have he : s.toList.isEmpty = false := by rw [Lib.toList_data]; exact emp_false h0
        have hd : s.data.toList.isEmpty = false := emp_false h0
        have HD := Lib.hid hd; clear hd
        go_wp2
        go_ret
        exact ⟨ret_int (by unfold mod97; rw [HD.out, H.out]; rfl), rfl⟩
end Go.Proofs.YteicnjemaemijaaGreatDoor
