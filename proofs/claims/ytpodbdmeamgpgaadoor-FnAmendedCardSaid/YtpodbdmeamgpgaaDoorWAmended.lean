/- The law FnAmended walked: it returns true. No condition. -/
import Derived.Test.YtpodbdmeamgpgaaDoorAmFacts
import Derived.Test.YtpodbdmeamgpgaaDoorLabFacts
import Derived.Test.YtpodbdmeamgpgaaDoorWExactParseLabel
import Derived.Test.YtpodbdmeamgpgaaDoorDrawLab
import Derived.Test.YtpodbdmeamgpgaaDoorAt
import Derived.Test.YtpodbdmeamgpgaaDoorSwap
import Derived.RegionTactic
import Derived.Deep.RegionLaw
namespace Go.Proofs.YtpodbdmeamgpgaaDoor
open Go.RowKit Go.PlainAid
open Go.Lib (itoa decDigits decDigits_two)
set_option maxRecDepth 100000
set_option linter.unusedVariables false
/-- How many of the first j places differ, where place i alone does. -/
def cnt (i j : Nat) : Int := if i < j then 1 else 0
theorem cnt_zero (i : Nat) : cnt i 0 = 0 := if_neg (by omega)
theorem cnt_self (i : Nat) : cnt i i = 0 := if_neg (by omega)
theorem cnt_end {i : Nat} (h : i < 15) : cnt i 15 = 1 := if_pos h
theorem cnt_hit (i : Nat) : cnt i (i + 1) = cnt i i + 1 := by unfold cnt; rw [if_pos (by omega), if_neg (by omega)]; rfl
theorem cnt_miss {i j : Nat} (h : ¬ j = i) : cnt i (j + 1) = cnt i j := by
  unfold cnt
  by_cases q : i < j
  · rw [if_pos q, if_pos (by omega)]
  · rw [if_neg q, if_neg (by omega)]
theorem cnt_bd (i j : Nat) : 0 ≤ cnt i j ∧ cnt i j ≤ 1 := by unfold cnt; split <;> omega
theorem chg_here {s : ByteArray} {i : Nat} {c : UInt8} (hi : i < s.size) : (chg s i c).data.toList[i]? = some c := by
  rw [chg_data, List.append_assoc, List.getElem?_append_right (by rw [List.length_take]; omega), List.length_take, data_len, Nat.min_eq_left (by omega), Nat.sub_self]; rfl
theorem chg_size {s : ByteArray} {i : Nat} {c : UInt8} (hi : i < s.size) : (chg s i c).size = s.size := by
  rw [← data_len, chg_data]
  simp only [List.length_append, List.length_take, List.length_drop, List.length_singleton, data_len]
  omega
theorem chg_back {s : ByteArray} {i : Nat} {c : UInt8} (hi : i < s.size) : s = chg (chg s i c) i (s[i]'hi) := by
  have h : s.data.toList = (chg (chg s i c) i (s[i]'hi)).data.toList := List.ext_getElem? fun n => by
    by_cases hn : n = i
    · rw [hn, chg_here (by rw [chg_size hi]; exact hi)]
      exact List.getElem?_eq_getElem (by rw [data_len]; exact hi)
    · rw [chg_far (by rw [chg_size hi]; exact hi) n hn, chg_far hi n hn]
  exact ByteArray.ext (Array.toList_inj.1 h)
/-- What the law asks of the list. -/
def AmLaw (t : ByteArray) (L : List ByteArray) : Prop := ∀ u ∈ L, u.size = 15 ∧ isLabB u.data.toList = true ∧ ∃ i : Nat, i < 15 ∧ ∀ j : Nat, j < 15 → ∃ a b : UInt8, (∀ h : j < u.size, u[j]'h = a) ∧ (∀ h : j < t.size, t[j]'h = b) ∧ ((a.toNat : Int) != (b.toNat : Int)) = decide (j = i)
theorem am_law (t : ByteArray) : AmLaw t (amL chrI 256 t) := fun u hu => (am_dif hu).2
theorem am_none {r t : ByteArray} (hr : isLabB r.data.toList = true) (h : (t.toList == r.toList) = true) : amL chrI 256 t = [] := by
  rw [Lib.toList_data, Lib.toList_data, beq_iff_eq] at h
  exact am_self (by rw [h]; exact hr)
theorem am_some {r t : ByteArray} {n : Nat} {c : UInt8} (hn : n < 15) (h15 : r.size = 15) (ht : t = chg r n c) (hr : isLabB r.data.toList = true) (h : (t.toList == r.toList) = false) : r ∈ amL chrI 256 t := by
  have hs : t.size = 15 := by rw [ht, chg_size (by omega)]; exact h15
  refine am_in (c := r[n]'(by omega)) hs hn (by rw [ht]; exact chg_back (by omega)) hr ?_
  rw [Bool.eq_false_iff, Ne, beq_iff_eq] at h ⊢
  exact fun e => h e.symm
theorem isLab_of {a b : Int} {s r : ByteArray} (hl : labOk ⟨a, b, s⟩ = true) (h : flabL ⟨a, b, s⟩ = r.data.toList) : isLabB r.data.toList = true := (isLab_B (.inl ⟨rfl, hl, h⟩ : IsLab r.data.toList ⟨a, b, s⟩ true)).symm
set_option maxHeartbeats 8000000 in
theorem walk_Amended (v0 : Value) (w : World) (h0 : VBytes w v0) (ht : Errs w) : Calls Tryd.prog 17 #[v0] w fun e w' => e = .returned (.bool true) ∧ Below w.heap.size w w' := by
  obtain ⟨xs, hxs, h⟩ := h0
  obtain ⟨A, c, rfl, hle, hm⟩ := h.form
  have hbig := fun W (hW : SliceOf W 1 vB (.slice A xs.length c) xs) => big_any xs _ W hW
  have HB := Lib.hid hbig; clear hbig
  cases hb : decide (4096 < (xs.length : Int))
  · go_enter Tryd.func17, Tryd.ntmps17
    go_wp2_with fail
    refine (HB.out _ h).mono ?_
    rintro e w0 ⟨rfl, rfl⟩
    go_wp2_with fail
    refine (drawFormat_any xs _ _ h).mono ?_
    rintro e w1 ⟨a, b, s, rfl, oa, ob, os, b1⟩
    have hs3 : s.size ≤ maxLen := names_size os
    have hT1 := ht.keep b1
    have HS := h.keep b1 (Nat.le_refl _)
    go_wp2_with fail
    refine (flabS a b s _ hs3 (hT1).1).mono ?_
    rintro e w2 ⟨r, rfl, HR, hr, b2⟩
    have HRS := Lib.hid hr; clear hr
    have B2 := chain b1 b2
    have hT2 := hT1.keep b2
    replace HS := HS.keep b2 (Nat.le_refl _)
    cases hl : labOk ⟨a, b, s⟩
    · have he := emp_of (HR.out.trans (flabOf_no hl))
      go_wp2_with fail
      go_ret
      exact ⟨rfl, B2⟩
    · have hr15 : r.size = 15 := by rw [HRS.out, flabOf_yes hl, flab_len hl]
      have he := notemp_of (r := r) (by omega)
      have HL : Hid (isLabB r.data.toList = true) := Lib.hid (isLab_of hl ((flabOf_yes hl).symm.trans HR.out.symm))
      have H15 := Lib.hid hr15
      have g15 : 15 ≤ r.size := by omega
      have g15' : r.size ≤ 15 := by omega
      clear hr15 hl
      have a1 := atV_bd hxs 1
      have a2 := atV_bd hxs 2
      have c1 := fun W (hW : SliceOf W 1 vB (.slice A xs.length c) xs) => at_any xs _ 1 W (by omega) hxs hW
      have c2 := fun W (hW : SliceOf W 1 vB (.slice A xs.length c) xs) => at_any xs _ 2 W (by omega) hxs hW
      generalize atV xs 1 = x1 at a1 c1
      generalize atV xs 2 = x2 at a2 c2
      obtain ⟨a10, a11⟩ := a1; obtain ⟨a20, a21⟩ := a2
      have C1 := Lib.hid c1; have C2 := Lib.hid c2
      clear c1 c2
      obtain ⟨n, hn⟩ : ∃ n : Nat, x1 % 15 = (n : Int) := ⟨(x1 % 15).toNat, by omega⟩
      have hn15 : n < 15 := by omega
      go_wp2_with fail
      refine (C1.out _ HS).mono ?_
      rintro e w3 ⟨rfl, rfl⟩
      have e1 : IntKind.i64.wrap ((n : Int) + 1) = (n : Int) + 1 := IntWalk.i64_in _ (by omega)
      have t1 : ((n : Int) + 1).toNat = n + 1 := by omega
      have g0 : (0 : Int) ≤ (n : Int) + 1 := by omega
      have g1 : (n : Int) + 1 ≤ (r.size : Int) := by omega
      have g2 : (n : Int) ≤ (r.size : Int) := by omega
      have k1 := fun (wx : World) (q : UInt8) => run_string_add_sum (P := Tryd.prog) wx (r.extract 0 n) ⟨#[q]⟩ (by have := extz r 0 n; show _ + 1 ≤ _; omega)
      have k2 := fun (wx : World) (q : UInt8) => run_string_add_sum (P := Tryd.prog) wx (r.extract 0 n ++ ⟨#[q]⟩) (r.extract (n + 1) r.size) (by have := extz r 0 n; have := extz r (n + 1) r.size; rw [ByteArray.size_append]; show _ + 1 + _ ≤ _; omega)
      have hcv := conv1
      have hcv2 := conv1d
      go_wp2_with fail
      have KS : ∀ o, SliceOf (w2.alloc o) 1 vB (.slice A xs.length c) xs := fun o => HS.keep ((Below.refl _ _).alloc (Nat.le_refl _) o) (Nat.le_refl _)
      have KB : ∀ o, Below w2.heap.size w2 (w2.alloc o) := fun o => (Below.refl _ _).alloc (Nat.le_refl _) o
      have HB0 : Below w2.heap.size w2 w2 := Below.refl _ _
      have u8w : IntKind.u8.wrap x2 = x2 := IntWalk.u8_in _ (by omega)
      go_region_law (first | (refine (C2.out _ (slice_drew HS)).mono ?_; rintro e w' ⟨rfl, rfl⟩) | (go_at_call 41; refine (C2.out _ (slice_drew HS)).mono ?_; rintro e w' ⟨rfl, rfl⟩) | (go_wp2_with fail; refine (C2.out _ (slice_drew HS)).mono ?_; rintro e w' ⟨rfl, rfl⟩))
      all_goals (try go_split_ands)
      have b3 : Below w2.heap.size w2 (w2.alloc (.cells #[.int .u8 x2] 5)).drew := Below.drew (KB _)
      go_wp2_with fail
      generalize htt : (r.extract 0 n ++ (⟨#[UInt8.ofNat x2.toNat]⟩ : ByteArray) ++ r.extract (n + 1) r.size) = t
      have HTT : Hid (t = chg r n (UInt8.ofNat x2.toNat)) := Lib.hid htt.symm
      have t15 : t.size = 15 := by rw [HTT.out, chg_size (by omega)]; exact H15.out
      clear htt k1 k2 hcv hcv2 KS KB
      refine (amI t _ (by omega) (hT2.keep b3)).mono ?_
      rintro e w4 ⟨v4, rfl, o4, b4⟩
      have b24 : Below w2.heap.size w2 w4 := chain b3 b4
      clear b3 b4
      have hT4 := hT2.keep b24
      have B4 := chain B2 b24
      have LAW := Lib.hid (am_law t)
      have NONE := Lib.hid (fun h => am_none (t := t) HL.out h)
      have SOME := Lib.hid (fun h => am_some (t := t) hn15 H15.out HTT.out HL.out h)
      have len := am_len chrI 256 (by omega) t
      generalize amL chrI 256 t = L at o4 LAW NONE SOME len
      have S4 := o4.slice vS_len (by omega)
      clear o4
      obtain ⟨A', c', rfl, hle', hm'⟩ := S4.form
      unfold maxLen at hm'
      clear b24 hT2 B2 HS HB0
      go_wp2_with fail
      go_loopw [7] (fun kv wr => ∃ k : Nat, k ≤ L.length ∧ kv = .int .i64 k ∧ Below w4.heap.size w4 wr) (fun kv _ => L.length - (intOf kv).toNat)
      case atStart => exact ⟨0, Nat.zero_le _, rfl, Below.refl _ _⟩
      case round =>
        obtain ⟨k, hk, rfl, hB⟩ := hrel
        by_cases hlt : k < L.length
        · obtain ⟨b_, off_, u, rfl, hb_, hx, hcell⟩ := S4.cells hlt
          have d4 : w4.cell? ⟨b_, off_ + k, none⟩ = some (.string u) := by simpa using hcell 0 _ rfl
          obtain ⟨u15, ul, i, hi, hd⟩ := LAW.out u (mem_of hx.out)
          have UL := Lib.hid ul
          have HD := Lib.hid hd
          have HC := Lib.hid (cnt_zero i)
          clear hcell hd ul
          have d0 := (hB.cell (p := ⟨b_, off_ + k, none⟩) hb_).trans d4
          have k0 : (0 : Int) ≤ (k : Int) := by omega
          have k1 : (k : Int) < (L.length : Int) := by omega
          go_wp2_with fail
          go_loopw [8, 9] (fun nv jv wr => ∃ j : Nat, j ≤ 15 ∧ jv = .int .i64 j ∧ nv = .int .i64 (cnt i j) ∧ Below w4.heap.size w4 wr) (fun _ jv _ => 15 - (intOf jv).toNat)
          case atStart => exact ⟨0, Nat.zero_le _, rfl, by rw [HC.out], hB⟩
          case round =>
            obtain ⟨j, hj, rfl, rfl, hB2⟩ := hrel
            by_cases hj15 : j < 15
            · obtain ⟨p, q, hp, hq, hpq⟩ := HD.out j hj15
              have d := (hB2.cell (p := ⟨b_, off_ + k, none⟩) hb_).trans d4
              clear d0
              have cb := cnt_bd i j
              have j0 : (0 : Int) ≤ (j : Int) := by omega
              have j1 : (j : Int) < 15 := by omega
              have j2 : (j : Int) < (u.size : Int) := by omega
              have j3 : (j : Int) < (t.size : Int) := by omega
              by_cases hji : j = i
              · rw [decide_eq_true hji] at hpq
                have ec := Lib.hid (cnt_hit i); clear cb
                subst hji
                go_wp2
                go_quiet (fail)
                go_wp2
                go_roundw
                case rel => exact ⟨j + 1, by omega, by go_num, by rw [cnt_hit, cnt_self]; first | exact congrArg (Value.int .i64) (IntWalk.i64_in (0 + 1) (by omega)) | exact congrArg (Value.int .i64) (by unfold wrap64; decide) | simp [wrap64], below_drewN hB2 _⟩
                case measure => simp [intOf]; omega
              · rw [decide_eq_false hji] at hpq
                have ec := Lib.hid (cnt_miss hji)
                go_wp2
                go_quiet (fail)
                go_wp2
                go_roundw
                case rel => exact ⟨j + 1, by omega, by go_num, by rw [ec.out], below_drewN hB2 _⟩
                case measure => simp [intOf]; omega
            · obtain rfl : j = 15 := by omega
              have d := (hB2.cell (p := ⟨b_, off_ + k, none⟩) hb_).trans d4
              have hb2z := hB2.size
              clear d0 hB
              rw [cnt_end hi]
              go_wp2_with fail
              refine (parseLabI u _ (by omega) (hT4.keep hB2)).mono ?_
              rintro e w6 ⟨d', ok', rfl, HD', b6⟩
              obtain rfl : ok' = true := (isLab_B HD').trans UL.out
              have hB3 := chain hB2 b6
              go_wp2_with fail
              go_roundw
              case rel => exact ⟨k + 1, by omega, by go_num, hB3.alloc hB3.size _⟩
              case measure => simp [intOf]; omega
        · obtain rfl : k = L.length := by omega
          cases hq : (t.toList == r.toList)
          · have hmem := Lib.hid (SOME.out hq)
            go_wp2_with fail
            refine (index_any L _ r _ (S4.keep hB (Nat.le_refl _))).mono ?_
            rintro e w6 ⟨y, rfl, y1, HY, b6⟩
            have hy := HY.out hmem.out
            have C6 := chain (chain B4 hB) b6
            go_wp2_with fail
            go_ret
            exact ⟨rfl, C6⟩
          · have hn := NONE.out hq
            subst hn
            have C6 := chain B4 hB
            go_wp2_with fail
            go_ret
            exact ⟨rfl, C6⟩
  · go_enter Tryd.func17, Tryd.ntmps17
    go_wp2_with fail
    refine (HB.out _ h).mono ?_
    rintro e w0 ⟨rfl, rfl⟩
    go_wp2_with fail
    go_ret
    exact ⟨rfl, Below.refl _ _⟩
end Go.Proofs.YtpodbdmeamgpgaaDoor
