/- What ParseInt answers: the program's and the reference's alike. No condition. -/
import Derived.Test.YteicnjemaemijaaGreatDoorFmt
import Derived.Test.YteicnjemaemijaaGreatDoorPlace
import Derived.Lib.AtoiErrMem
import Derived.Lib.AtoiAllMem
import Derived.Lib.AtoiAllCases
namespace Go.Proofs.YteicnjemaemijaaGreatDoor
open Go.RowKit Go.PlainAid
open Go.Lib (itoa decDigits decDigits_two)
set_option maxRecDepth 100000
set_option linter.unusedVariables false
/-- How Atoi ends: a number, or an error that isn't nil. -/
def APost (l : List UInt8) (w : World) (e : Ending) (w' : World) : Prop :=
  (∃ v : Int, Lib.atoiAll l = .ok v ∧ okI v ∧ e = .returned (.tuple #[.int .i64 v, .nilIface]) ∧ Below w.heap.size w w') ∨
  ((∀ v : Int, Lib.atoiAll l ≠ .ok v) ∧ ∃ (n : Int) (tp : TypeId) (p : Value), okI n ∧ e = .returned (.tuple #[.int .i64 n, .iface tp p]) ∧ Below w.heap.size w w')
theorem atoi_any (s : ByteArray) (w : World) (hs : s.size ≤ 281474976710656) (h : Errs w) : Calls Tryz.prog 46 #[.string s] w (APost s.data.toList w) := by
  obtain ⟨-, ⟨t1, p1, h1⟩, t2, p2, h2⟩ := h
  cases ha : Lib.atoiAll s.data.toList
  · next v =>
    obtain ⟨v0, v1⟩ := Lib.atoiAll_bounds ha
    refine (Tryz.strconv_Atoi_ok s (by omega) v ha w).mono ?_
    rintro e w' ⟨rfl, hw⟩
    refine .inl ⟨v, ha, ⟨v0, v1⟩, rfl, ?_⟩
    rcases hw with rfl | ⟨t, rfl⟩
    · exact Below.refl _ _
    · exact Lib.bytesWorld_below _ _ _
  · have hn : ∀ v : Int, Lib.atoiAll s.data.toList ≠ .ok v := fun v hv => by rw [ha] at hv; cases hv
    refine (Tryz.strconv_Atoi_syntax_var s hs hn (fun hv => by rw [ha] at hv; cases hv) t1 p1 w h1).mono ?_
    rintro e w' ⟨N, rfl, -, -, b⟩
    exact .inr ⟨hn, _, _, _, by unfold okI; omega, rfl, b⟩
  · obtain ⟨v0, v1⟩ := Lib.atoiSat_bounds s.data.toList
    refine (Tryz.strconv_Atoi_range_var s hs ha t2 p2 w h2).mono ?_
    rintro e w' ⟨N, rfl, -, -, b⟩
    exact .inr ⟨(fun v hv => by rw [ha] at hv; cases hv), _, _, _, ⟨v0, v1⟩, rfl, b⟩
/-- A number read, or none. -/
def NPost (l : List UInt8) (w : World) (e : Ending) (w' : World) : Prop := ∃ (n : Int) (ok : Bool), e = .returned (.tuple #[.int .i64 n, .bool ok]) ∧ Hid (IsNum l n ok) ∧ 0 ≤ n ∧ n ≤ 1000000000 ∧ Below w.heap.size w w'
theorem NPost.of {l : List UInt8} {w w' : World} {n : Int} {ok : Bool} (h : IsNum l n ok) (b : Below w.heap.size w w') : NPost l w (.returned (.tuple #[.int .i64 n, .bool ok])) w' :=
  ⟨n, ok, rfl, h, h.bd.1, h.bd.2, b⟩
theorem num_no_atoi {l : List UInt8} {v : Int} (ha : Lib.atoiAll l = .ok v) (h : v < 0 ∨ 1000000000 < v ∨ itoa v ≠ l) : IsNum l 0 false :=
  .inr ⟨rfl, rfl, fun m h0 h1 e => by
    have := atoi_itoa h0 h1
    rw [e, ha] at this
    injection this with this
    subst this
    rcases h with h | h | h
    · omega
    · omega
    · exact h e⟩
theorem num_no_err {l : List UInt8} (ha : ∀ v : Int, Lib.atoiAll l ≠ .ok v) : IsNum l 0 false :=
  .inr ⟨rfl, rfl, fun m h0 h1 e => ha m (by rw [← e]; exact atoi_itoa h0 h1)⟩
theorem num_yes {l : List UInt8} {v : Int} (h0 : 0 ≤ v) (h1 : v ≤ 1000000000) (h : itoa v = l) : IsNum l v true := .inl ⟨rfl, h0, h1, h⟩
theorem same_list {r s : ByteArray} {l : List UInt8} (hr : r.data.toList = l) (h : (r.toList == s.toList) = true) : l = s.data.toList := by
  have := eq_of_beq h
  rw [Lib.toList_data, Lib.toList_data] at this
  rw [← hr, this]
theorem diff_list {r s : ByteArray} {l : List UInt8} (hr : r.data.toList = l) (h : (r.toList == s.toList) = false) : l ≠ s.data.toList := by
  intro e
  have : r.toList = s.toList := by rw [Lib.toList_data, Lib.toList_data, hr, e]
  rw [this] at h; simp at h
set_option maxHeartbeats 1600000 in
theorem parseI (s : ByteArray) (w : World) (hs : s.size ≤ 281474976710656) (h : Errs w) : Calls Tryz.prog 23 #[.string s] w (NPost s.data.toList w) := by
  go_enter Tryz.func23, Tryz.ntmps23
  go_wp2_with fail
  refine (atoi_any s _ hs h).mono ?_
  rintro e w1 (⟨v, ha, ⟨v0, v1⟩, rfl, b1⟩ | ⟨ha, n, tp, p, hn, rfl, b1⟩)
  · have HA := Lib.hid ha; clear ha
    by_cases h0 : v < 0
    · go_wp2_with fail
      go_ret2
      exact NPost.of (num_no_atoi HA.out (.inl h0)) b1
    · by_cases h1 : 1000000000 < v
      · go_wp2_with fail
        go_ret2
        exact NPost.of (num_no_atoi HA.out (.inr (.inl h1))) b1
      · have h0' : 0 ≤ v := by omega
        have h1' : v ≤ 1000000000 := by omega
        go_wp2_with fail
        refine (Tryz.strconv_Itoa v (by omega) (by omega) _ (h.keep b1).1.1).mono ?_
        rintro e w2 ⟨rfl, k, os, rfl⟩
        have b2 := chain b1 (below_grow w1 k os)
        generalize hr : (⟨(itoa v).toArray⟩ : ByteArray) = r
        have hr' : r.data.toList = itoa v := by rw [← hr]
        clear hr
        have HR := Lib.hid hr'; clear hr'
        cases hq : (r.toList == s.toList)
        · go_wp2_with fail
          go_ret2
          exact NPost.of (num_no_atoi HA.out (.inr (.inr (diff_list HR.out hq)))) b2
        · go_wp2_with fail
          go_ret2
          exact NPost.of (num_yes h0' h1' (same_list HR.out hq)) b2
  · have HA := Lib.hid ha; clear ha
    go_wp2_with fail
    go_ret2
    exact NPost.of (num_no_err HA.out) b1
theorem digs_of_mem {l : List UInt8} {c : UInt8} (hd : digs l = true) (h : c ∈ l) : digC c = true := by
  unfold digs at hd; rw [List.all_eq_true] at hd; exact hd c h
theorem num_no_char {l : List UInt8} {c : UInt8} (hc : c ∈ l) (hn : ¬ (48 ≤ (c.toNat : Int) ∧ (c.toNat : Int) ≤ 57)) : IsNum l 0 false :=
  .inr ⟨rfl, rfl, fun m h0 h1 e => by
    have := dec_digs m.toNat
    rw [← itoa_nat h0, e] at this
    exact hn ((digC_iff c).1 (digs_of_mem this hc))⟩
/-- Eleven letters at the most are enough. -/
theorem num_take {l : List UInt8} {k : Nat} (hk : k = l.length ∨ k = 11 ∧ 11 ≤ l.length) {m : Int} (h0 : 0 ≤ m) (h1 : m ≤ 1000000000) (e : itoa m = l) : ((val (l.take k) : Nat) : Int) = m := by
  have hl : l.length ≤ 10 := by rw [← e, itoa_nat h0]; exact dec_len 9 _ (by omega)
  have hkl : k = l.length := by omega
  rw [hkl, List.take_length, ← e, itoa_nat h0, val_dec]; omega
theorem num_no_big {l : List UInt8} {k : Nat} (hk : k = l.length ∨ k = 11 ∧ 11 ≤ l.length) (h : 1000000000 < ((val (l.take k) : Nat) : Int) ∨ itoa ((val (l.take k) : Nat) : Int) ≠ l) : IsNum l 0 false :=
  .inr ⟨rfl, rfl, fun m h0 h1 e => by
    have := num_take hk h0 h1 e
    rw [this] at h
    rcases h with h | h
    · omega
    · exact h e⟩
set_option maxHeartbeats 1600000 in
theorem parseS (s : ByteArray) (w : World) (hs : s.size ≤ 281474976710656) : Calls Tryz.prog 19 #[.string s] w (NPost s.data.toList w) := by
  go_enter Tryz.func19, Tryz.ntmps19
  go_wp2_with fail
  go_loop [4, 5] (fun n i => ∃ (k m : Nat), k ≤ s.size ∧ k ≤ 11 ∧ i = .int .i64 k ∧ n = .int .i64 m ∧ m < 100000000000 ∧ Hid (m = val (s.data.toList.take k)) ∧ Hid (digs (s.data.toList.take k) = true)) (fun _ i => s.size - (intOf i).toNat)
  case atStart => exact ⟨0, 0, by omega, by omega, rfl, rfl, by omega, rfl, rfl⟩
  case round =>
    obtain ⟨k, m, hk, hk2, rfl, rfl, hm, HM, H⟩ := hrel
    have hm0 : 0 ≤ (m : Int) := by omega
    have hm1 : (m : Int) < 100000000000 := by omega
    have fin : k = s.size ∨ k = 11 ∧ 11 ≤ s.size → ∀ (r : ByteArray), True := fun _ _ => trivial
    by_cases hlt : k < s.size
    · by_cases h11 : k < 11
      · have h11' : (k : Int) < 11 := by omega
        obtain ⟨c, hc⟩ : ∃ c : UInt8, c = s[k] := ⟨_, rfl⟩
        have hcb : (c.toNat : Int) ≤ 255 := by have := c.toNat_lt; omega
        have hget : ∀ h : k < s.size, s[k]'h = c := fun _ => hc.symm
        have hts : s.data.toList.take (k + 1) = s.data.toList.take k ++ [c] := by rw [take_snoc s k hlt, hc]
        have hmem : c ∈ s.data.toList := by rw [hc]; exact mem_get s k hlt
        have HT := Lib.hid hts; clear hts
        have HC := Lib.hid hmem; clear hmem
        clear hc
        by_cases hd : 48 ≤ (c.toNat : Int) ∧ (c.toNat : Int) ≤ 57
        · have r1 := rng_true hd.1 hd.2
          have hv : val (s.data.toList.take (k + 1)) = m * 10 + (c.toNat - 48) := by rw [HT.out, val_snoc, ← HM.out]
          have hdg : digs (s.data.toList.take (k + 1)) = true := by rw [HT.out, digs_snoc, H.out, (digC_iff c).2 hd]; rfl
          have hb : val (s.data.toList.take (k + 1)) < 100000000000 := by
            have h1 := val_lt hdg
            have h2 : (s.data.toList.take (k + 1)).length ≤ 11 := by rw [List.length_take]; omega
            have h3 : 10 ^ (s.data.toList.take (k + 1)).length ≤ 10 ^ 11 := Nat.pow_le_pow_right (by omega) h2
            omega
          have HV := Lib.hid hv; have HDG := Lib.hid hdg; have HB := Lib.hid hb
          clear hv hdg hb
          obtain ⟨hd1, hd2⟩ := hd
          go_wp2_with ((go_at_call 39; refine (l1In_any _ _ _ _).mono ?_; rintro e w' ⟨rfl, rfl⟩))
          go_round
          case rel => exact ⟨k + 1, m * 10 + (c.toNat - 48), by omega, by omega, by go_num, by congr 1; omega, by rw [← HV.out]; exact HB.out, HV.out.symm, HDG.out⟩
          case measure => simp [intOf]; omega
        · have r1 := rng_false (n := (c.toNat : Int)) (a := 48) (b := 57) (by omega)
          go_wp2_with ((go_at_call 39; refine (l1In_any _ _ _ _).mono ?_; rintro e w' ⟨rfl, rfl⟩))
          go_ret2
          exact NPost.of (num_no_char HC.out hd) (Below.refl _ _)
      · have hk11 : Hid (k = s.data.toList.length ∨ k = 11 ∧ 11 ≤ s.data.toList.length) := Lib.hid (.inr ⟨by omega, by rw [data_len]; omega⟩)
        have h11' : ¬ (k : Int) < 11 := by omega
        by_cases hbig : (1000000000 : Int) < (m : Int)
        · go_wp2_with fail
          go_ret2
          exact NPost.of (num_no_big hk11.out (.inl (by rw [← HM.out]; exact hbig))) (Below.refl _ _)
        · go_wp2_with fail
          refine (fmtS _ _ (by unfold okI; omega)).mono ?_
          rintro e w1 ⟨r, rfl, HR, hr, b1⟩
          have HRS := Lib.hid hr; clear hr
          cases hq : (r.toList == s.toList)
          · go_wp2_with fail
            go_ret2
            exact NPost.of (num_no_big hk11.out (.inr (by rw [← HM.out]; exact diff_list HR.out hq))) b1
          · go_wp2_with fail
            go_ret2
            exact NPost.of (num_yes hm0 (by omega) (same_list HR.out hq)) b1
    · have hk11 : Hid (k = s.data.toList.length ∨ k = 11 ∧ 11 ≤ s.data.toList.length) := Lib.hid (.inl (by rw [data_len]; omega))
      by_cases hbig : (1000000000 : Int) < (m : Int)
      · go_wp2_with fail
        go_ret2
        exact NPost.of (num_no_big hk11.out (.inl (by rw [← HM.out]; exact hbig))) (Below.refl _ _)
      · go_wp2_with fail
        refine (fmtS _ _ (by unfold okI; omega)).mono ?_
        rintro e w1 ⟨r, rfl, HR, hr, b1⟩
        have HRS := Lib.hid hr; clear hr
        cases hq : (r.toList == s.toList)
        · go_wp2_with fail
          go_ret2
          exact NPost.of (num_no_big hk11.out (.inr (by rw [← HM.out]; exact diff_list HR.out hq))) b1
        · go_wp2_with fail
          go_ret2
          exact NPost.of (num_yes hm0 (by omega) (same_list HR.out hq)) b1
end Go.Proofs.YteicnjemaemijaaGreatDoor
