/- What Digits answers: the program's and the reference's alike. No condition. -/
import Derived.Test.YteicnjemaemijaaGreatDoorFmt
import Derived.Test.YteicnjemaemijaaGreatDoorBuilder
import Derived.Test.YteicnjemaemijaaGreatDoorCheckMath
namespace Go.Proofs.YteicnjemaemijaaGreatDoor
open Go.RowKit Go.PlainAid
open Go.Lib (itoa decDigits decDigits_two)
set_option maxRecDepth 100000
set_option linter.unusedVariables false
/-- The digits of a text, and whether it has them. -/
def DPost (l : List UInt8) (w : World) (e : Ending) (w' : World) : Prop := ∃ r : ByteArray, e = .returned (.tuple #[.string r, .bool (digOk l)]) ∧ Hid (r.data.toList = if digOk l then digF l else []) ∧ Below w.heap.size w w'
theorem DPost.ok {l : List UInt8} {w w' : World} {r : ByteArray} (h : digOk l = true) (hr : r.data.toList = digF l) (b : Below w.heap.size w w') : DPost l w (.returned (.tuple #[.string r, .bool true])) w' :=
  ⟨r, by rw [h], by show _ = _; rw [h, hr]; rfl, b⟩
theorem DPost.no {l : List UInt8} {w w' : World} (h : digOk l = false) (b : Below w.heap.size w w') : DPost l w (.returned (.tuple #[.string ⟨#[]⟩, .bool false])) w' :=
  ⟨⟨#[]⟩, by rw [h], by show _ = _; rw [h]; rfl, b⟩
theorem digF_snoc (l : List UInt8) (c : UInt8) : digF (l ++ [c]) = digF l ++ expC c := by rw [digF_append]; unfold digF; simp
theorem digOk_snoc (l : List UInt8) (c : UInt8) : digOk (l ++ [c]) = (digOk l && dokC c) := by rw [digOk_append]; unfold digOk; simp
theorem digOk_not {l : List UInt8} {c : UInt8} (hm : c ∈ l) (hc : dokC c = false) : digOk l = false := by
  unfold digOk; rw [List.all_eq_false]; exact ⟨c, hm, by rw [hc]; simp⟩
theorem expC_len (c : UInt8) : (expC c).length ≤ 3 := by
  unfold expC
  split
  · simp
  · have := dec_len 2 (c.toNat - 55) (by have := c.toNat_lt; omega); omega
theorem digF_len : ∀ l : List UInt8, (digF l).length ≤ 3 * l.length
  | [] => Nat.le_refl _
  | c :: l => by
    show (expC c ++ digF l).length ≤ _
    rw [List.length_append, List.length_cons]
    have := expC_len c
    have := digF_len l
    omega
theorem exp_dig {c : UInt8} (h1 : 48 ≤ (c.toNat : Int)) (h2 : (c.toNat : Int) ≤ 57) : expC c = [c] ∧ dokC c = true := by
  have h : digC c = true := (digC_iff c).2 ⟨h1, h2⟩
  unfold expC dokC; rw [if_pos h, h]; exact ⟨rfl, rfl⟩
theorem exp_let {c : UInt8} (h1 : 65 ≤ (c.toNat : Int)) (h2 : (c.toNat : Int) ≤ 90) : expC c = itoa ((c.toNat : Int) - 65 + 10) ∧ dokC c = true := by
  have h : upC c = true := (upC_iff c).2 (by omega)
  unfold expC dokC; rw [if_neg (by rw [up_not_dig h]; simp), itoa_nat (by omega), h, Bool.or_true]
  exact ⟨by congr 1; omega, rfl⟩
theorem exp_no {c : UInt8} (h1 : ¬ (48 ≤ (c.toNat : Int) ∧ (c.toNat : Int) ≤ 57)) (h2 : ¬ (65 ≤ (c.toNat : Int) ∧ (c.toNat : Int) ≤ 90)) : dokC c = false := by
  unfold dokC
  have e1 : digC c = false := by rw [Bool.eq_false_iff, Ne, digC_iff]; exact h1
  have e2 : upC c = false := by rw [Bool.eq_false_iff, Ne, upC_iff]; omega
  rw [e1, e2]; rfl
set_option maxHeartbeats 1600000 in
theorem digitsI (s : ByteArray) (w : World) (hs : s.size ≤ 1099511627776) (ht : Tabs w) : Calls Tryz.prog 74 #[.string s] w (DPost s.data.toList w) := by
  go_enter Tryz.func74, Tryz.ntmps74
  go_wp2_with fail
  go_loopw [5] (fun i wr => ∃ k : Nat, k ≤ s.size ∧ i = .int .i64 k ∧ Hid (digOk (s.data.toList.take k) = true) ∧ Bld w.heap.size w.heap.size (digF (s.data.toList.take k)) wr ∧ Below w.heap.size w wr) (fun i _ => s.size - (intOf i).toNat)
  case atStart => exact ⟨0, Nat.zero_le _, rfl, rfl, Bld.fresh w, by go_grown⟩
  case round =>
    obtain ⟨k, hk, rfl, H, hbl, hb⟩ := hrel
    have hbz := hb.size
    have hfl : (digF (s.data.toList.take k)).length ≤ 3 * 1099511627776 := by
      have h1 := digF_len (s.data.toList.take k)
      have h2 := List.length_take_le k s.data.toList
      omega
    by_cases hlt : k < s.size
    · obtain ⟨c, hc⟩ : ∃ c : UInt8, c = s[k] := ⟨_, rfl⟩
      have hcb : (c.toNat : Int) ≤ 255 := by have := c.toNat_lt; omega
      have hget : ∀ h : k < s.size, s[k]'h = c := fun _ => hc.symm
      have hts : s.data.toList.take (k + 1) = s.data.toList.take k ++ [c] := by rw [take_snoc s k hlt, hc]
      have hm : c ∈ s.data.toList := by rw [hc]; exact mem_get s k hlt
      have HT := Lib.hid hts; clear hts
      have HM := Lib.hid hm; clear hm
      clear hc
      obtain ⟨m, hmm⟩ : ∃ m, m = digF (s.data.toList.take k) := ⟨_, rfl⟩
      rw [← hmm] at hbl hfl
      have HMM := Lib.hid hmm; clear hmm
      by_cases hd : 48 ≤ (c.toNat : Int) ∧ (c.toNat : Int) ≤ 57
      · obtain ⟨h1, h2⟩ := hd
        go_wp2_with fail
        refine (bByte _ _ m c _ hbl (by omega) hbz).mono ?_
        rintro e w1 ⟨rfl, hbl1, b1⟩
        go_wp2_with fail
        go_roundw
        case rel => exact ⟨k + 1, by omega, by go_num, by show _ = _; rw [HT.out, digOk_snoc, H.out, (exp_dig h1 h2).2]; rfl, by rw [HT.out, digF_snoc, ← HMM.out, (exp_dig h1 h2).1]; exact hbl1, hb.trans b1⟩
        case measure => simp [intOf]; omega
      · by_cases hu : 65 ≤ (c.toNat : Int) ∧ (c.toNat : Int) ≤ 90
        · obtain ⟨h1, h2⟩ := hu
          have hnd : ¬ (c.toNat : Int) ≤ 57 := by omega
          go_wp2_with fail
          refine (fmtI _ _ (by unfold okI; omega) (ht.below hb ht.2)).mono ?_
          rintro e w1 ⟨r, rfl, Hr, hr, b1⟩
          have hr' : r.size ≤ 21 := by have := Lib.itoa_length_le ((c.toNat : Int) - 65 + 10) (by omega) (by omega); omega
          have HR := Lib.hid hr; clear hr
          have hb1 := hb.trans (b1.mono hbz)
          go_wp2_with fail
          refine (bText _ _ m _ r _ (hbl.keep b1) Hr (by omega) (by have := b1.size; omega)).mono ?_
          rintro e w2 ⟨rfl, hbl2, b2⟩
          go_wp2_with fail
          go_roundw
          case rel => exact ⟨k + 1, by omega, by go_num, by show _ = _; rw [HT.out, digOk_snoc, H.out, (exp_let h1 h2).2]; rfl, by rw [HT.out, digF_snoc, ← HMM.out, (exp_let h1 h2).1]; exact hbl2, hb1.trans b2⟩
          case measure => simp [intOf]; omega
        · have hno := Lib.hid (digOk_not HM.out (exp_no hd hu))
          by_cases a1 : 48 ≤ (c.toNat : Int)
          all_goals by_cases a2 : (c.toNat : Int) ≤ 57
          all_goals by_cases a3 : 65 ≤ (c.toNat : Int)
          all_goals by_cases a4 : (c.toNat : Int) ≤ 90
          all_goals first | (exfalso; omega) | skip
          all_goals
            go_wp2_with fail
            go_ret2
            exact DPost.no hno.out hb
    · obtain rfl : k = s.size := by omega
      have hall : s.data.toList.take s.size = s.data.toList := List.take_of_length_le (by simp)
      rw [hall] at H hbl
      clear hall
      go_wp2_with fail
      refine (bString _ _ _ _ hbl hbz).mono ?_
      rintro e w1 ⟨rfl, b1⟩
      go_wp2_with fail
      go_ret2
      exact DPost.ok H.out rfl (hb.trans b1)
theorem one_byte_text {s : ByteArray} {k : Nat} {c : UInt8} (h : k < s.size) (hget : ∀ h : k < s.size, s[k]'h = c) : (s.extract k (k + 1)).data.toList = [c] := by
  rw [Lib.extract_data]
  have e : k + 1 - k = 1 := by omega
  rw [e, List.drop_eq_getElem_cons (by simpa using h)]
  have := hget h
  simp only [List.take_succ_cons, List.take_zero]
  rw [← this]; rfl
set_option maxHeartbeats 1600000 in
theorem digitsS (s : ByteArray) (w : World) (hs : s.size ≤ 1099511627776) : Calls Tryz.prog 79 #[.string s] w (DPost s.data.toList w) := by
  go_enter Tryz.func79, Tryz.ntmps79
  go_wp2_with fail
  go_loopw [4, 5] (fun o i wr => ∃ (k : Nat) (q : ByteArray), k ≤ s.size ∧ i = .int .i64 k ∧ o = .string q ∧ Hid (digOk (s.data.toList.take k) = true) ∧ Hid (q.data.toList = digF (s.data.toList.take k)) ∧ q.size ≤ 3 * 1099511627776 ∧ Below w.heap.size w wr) (fun _ i _ => s.size - (intOf i).toNat)
  case atStart => exact ⟨0, _, Nat.zero_le _, rfl, rfl, rfl, rfl, by show 0 ≤ _; omega, Below.refl _ _⟩
  case round =>
    obtain ⟨k, q, hk, rfl, rfl, H, HQ, hq, hb⟩ := hrel
    have hbz := hb.size
    by_cases hlt : k < s.size
    · obtain ⟨c, hc⟩ : ∃ c : UInt8, c = s[k] := ⟨_, rfl⟩
      have hcb : (c.toNat : Int) ≤ 255 := by have := c.toNat_lt; omega
      have hget : ∀ h : k < s.size, s[k]'h = c := fun _ => hc.symm
      have hts : s.data.toList.take (k + 1) = s.data.toList.take k ++ [c] := by rw [take_snoc s k hlt, hc]
      have hm : c ∈ s.data.toList := by rw [hc]; exact mem_get s k hlt
      have hfl : (digF (s.data.toList.take (k + 1))).length ≤ 3 * 1099511627776 := by
        have h1 := digF_len (s.data.toList.take (k + 1))
        have h2 := List.length_take_le (k + 1) s.data.toList
        omega
      have HT := Lib.hid hts; clear hts
      have HM := Lib.hid hm; clear hm
      have HF := Lib.hid hfl; clear hfl
      clear hc
      by_cases hd : 48 ≤ (c.toNat : Int) ∧ (c.toNat : Int) ≤ 57
      · have r1 := rng_true hd.1 hd.2
        have HE : Hid ((q ++ s.extract k (k + 1)).data.toList = digF (s.data.toList.take (k + 1))) := by
          show _ = _; rw [ByteArray.data_append, Array.toList_append, HQ.out, one_byte_text hlt hget, HT.out, digF_snoc, (exp_dig hd.1 hd.2).1]
        have hsz : (q ++ s.extract k (k + 1)).size ≤ 3 * 1099511627776 := by rw [← data_len, HE.out]; exact HF.out
        have HS := Lib.hid hsz; clear hsz
        have t1 : ((k : Int) + 1).toNat = k + 1 := by omega
        have g0 : (0 : Int) ≤ (k : Int) + 1 := by omega
        have g2 : (k : Int) + 1 ≤ (s.size : Int) := by omega
        have g3 : (k : Int) ≤ (k : Int) + 1 := by omega
        have k1 := fun wx : World => run_string_add_sum (P := Tryz.prog) wx q (s.extract k (k + 1)) (by have := extz s k (k + 1); omega)
        go_wp2_with ((go_at_call 39; refine (l1In_any _ _ _ _).mono ?_; rintro e w' ⟨rfl, rfl⟩))
        go_roundw
        case rel => exact ⟨k + 1, _, by omega, by go_num, rfl, by show _ = _; rw [HT.out, digOk_snoc, H.out, (exp_dig hd.1 hd.2).2]; rfl, HE, HS.out, hb⟩
        case measure => simp [intOf]; omega
      · have r1 := rng_false (n := (c.toNat : Int)) (a := 48) (b := 57) (by omega)
        by_cases hu : 65 ≤ (c.toNat : Int) ∧ (c.toNat : Int) ≤ 90
        · have r2 := rng_true hu.1 hu.2
          obtain ⟨h1, h2⟩ := hu
          go_wp2_with ((go_at_call 39; refine (l1In_any _ _ _ _).mono ?_; rintro e w' ⟨rfl, rfl⟩))
          refine (fmtS _ _ (by unfold okI; omega)).mono ?_
          rintro e w1 ⟨r, rfl, Hr, hr, b1⟩
          have hr' : r.size ≤ 21 := by have := Lib.itoa_length_le ((c.toNat : Int) - 65 + 10) (by omega) (by omega); omega
          have HR := Lib.hid hr; clear hr
          have hb1 := hb.trans (b1.mono hbz)
          have HE : Hid ((q ++ r).data.toList = digF (s.data.toList.take (k + 1))) := by
            show _ = _; rw [ByteArray.data_append, Array.toList_append, HQ.out, Hr.out, HT.out, digF_snoc, (exp_let h1 h2).1]
          have hsz : (q ++ r).size ≤ 3 * 1099511627776 := by rw [← data_len, HE.out]; exact HF.out
          have HS := Lib.hid hsz; clear hsz
          go_wp2_with fail
          go_roundw
          case rel => exact ⟨k + 1, _, by omega, by go_num, rfl, by show _ = _; rw [HT.out, digOk_snoc, H.out, (exp_let h1 h2).2]; rfl, HE, HS.out, hb1⟩
          case measure => simp [intOf]; omega
        · have r2 := rng_false (n := (c.toNat : Int)) (a := 65) (b := 90) (by omega)
          have hno := Lib.hid (digOk_not HM.out (exp_no hd hu))
          go_wp2_with ((go_at_call 39; refine (l1In_any _ _ _ _).mono ?_; rintro e w' ⟨rfl, rfl⟩))
          go_ret2
          exact DPost.no hno.out hb
    · obtain rfl : k = s.size := by omega
      have hall : s.data.toList.take s.size = s.data.toList := List.take_of_length_le (by simp)
      rw [hall] at H HQ
      clear hall
      go_wp2_with fail
      go_ret2
      exact DPost.ok H.out HQ.out hb
end Go.Proofs.YteicnjemaemijaaGreatDoor
