/- The law FnOneChange walked: it returns true. No condition. -/
import Derived.Test.YtpodbdmeamgpgaaDoorLabFacts
import Derived.Test.YtpodbdmeamgpgaaDoorWExactParseLabel
import Derived.Test.YtpodbdmeamgpgaaDoorDrawLab
import Derived.Test.YtpodbdmeamgpgaaDoorAt
import Derived.Test.YtpodbdmeamgpgaaDoorSwap
import Derived.RegionTactic
namespace Go.Proofs.YtpodbdmeamgpgaaDoor
open Go.RowKit Go.PlainAid
open Go.Lib (itoa decDigits decDigits_two)
set_option maxRecDepth 100000
set_option linter.unusedVariables false
set_option maxHeartbeats 8000000 in
theorem walk_OneChange (v0 : Value) (w : World) (h0 : VBytes w v0) (ht : Errs w) : Calls Tryd.prog 13 #[v0] w fun e w' => e = .returned (.bool true) ∧ Below w.heap.size w w' := by
  obtain ⟨xs, hxs, h⟩ := h0
  obtain ⟨A, c, rfl, hle, hm⟩ := h.form
  have hbig := fun W (hW : SliceOf W 1 vB (.slice A xs.length c) xs) => big_any xs _ W hW
  have HB := Lib.hid hbig; clear hbig
  cases hb : decide (4096 < (xs.length : Int))
  · go_enter Tryd.func13, Tryd.ntmps13
    go_wp2_with fail
    refine (HB.out _ h).mono ?_
    rintro e w0 ⟨rfl, rfl⟩
    go_wp2_with fail
    refine (drawFormat_any xs _ _ h).mono ?_
    rintro e w1 ⟨a, b, s, rfl, oa, ob, os, b1⟩
    have hs3 : s.size ≤ maxLen := names_size os
    have hT1 := ht.keep b1
    have HS := h.keep b1 (Nat.le_refl _)
    go_wp2_with fail
    refine (flabS a b s _ hs3 (hT1).1).mono ?_
    rintro e w2 ⟨r, rfl, HR, hr, b2⟩
    have HRS := Lib.hid hr; clear hr
    have B2 := chain b1 b2
    have hT2 := hT1.keep b2
    replace HS := HS.keep b2 (Nat.le_refl _)
    cases hl : labOk ⟨a, b, s⟩
    · have he := emp_of (HR.out.trans (flabOf_no hl))
      go_wp2_with fail
      go_ret
      exact ⟨rfl, B2⟩
    · have hr15 : r.size = 15 := by rw [HRS.out, flabOf_yes hl, flab_len hl]
      have he := notemp_of (r := r) (by omega)
      have HL : Hid (flabL ⟨a, b, s⟩ = r.data.toList) := Lib.hid ((flabOf_yes hl).symm.trans HR.out.symm)
      have H15 := Lib.hid hr15
      have hLO := Lib.hid hl
      have g15 : 15 ≤ r.size := by omega
      have g15' : r.size ≤ 15 := by omega
      clear hr15 hl
      have a1 := atV_bd hxs 1
      have a2 := atV_bd hxs 2
      have a3 := atV_bd hxs 3
      have c1 := fun W (hW : SliceOf W 1 vB (.slice A xs.length c) xs) => at_any xs _ 1 W (by omega) hxs hW
      have c2 := fun W (hW : SliceOf W 1 vB (.slice A xs.length c) xs) => at_any xs _ 2 W (by omega) hxs hW
      have c3 := fun W (hW : SliceOf W 1 vB (.slice A xs.length c) xs) => at_any xs _ 3 W (by omega) hxs hW
      generalize atV xs 1 = x1 at a1 c1
      generalize atV xs 2 = x2 at a2 c2
      generalize atV xs 3 = x3 at a3 c3
      obtain ⟨a10, a11⟩ := a1; obtain ⟨a20, a21⟩ := a2; obtain ⟨a30, a31⟩ := a3
      have C1 := Lib.hid c1; have C2 := Lib.hid c2; have C3 := Lib.hid c3
      clear c1 c2 c3
      obtain ⟨n, hn⟩ : ∃ n : Nat, x1 % 15 = (n : Int) := ⟨(x1 % 15).toNat, by omega⟩
      have hn15 : n < 15 := by omega
      have HN := Lib.hid hn
      go_wp2_with fail
      refine (C1.out _ HS).mono ?_
      rintro e w3 ⟨rfl, rfl⟩
      go_wp2_with fail
      refine (C2.out _ HS).mono ?_
      rintro e w3 ⟨rfl, rfl⟩
      go_wp2_with fail
      refine (C3.out _ HS).mono ?_
      rintro e w3 ⟨rfl, rfl⟩
      have e1 : IntKind.i64.wrap ((n : Int) + 1) = (n : Int) + 1 := IntWalk.i64_in _ (by omega)
      have t1 : ((n : Int) + 1).toNat = n + 1 := by omega
      have g0 : (0 : Int) ≤ (n : Int) + 1 := by omega
      have g1 : (n : Int) + 1 ≤ (r.size : Int) := by omega
      have g2 : (n : Int) ≤ (r.size : Int) := by omega
      have k1 := fun (wx : World) (q : UInt8) => run_string_add_sum (P := Tryd.prog) wx (r.extract 0 n) ⟨#[q]⟩ (by have := extz r 0 n; show _ + 1 ≤ _; omega)
      have k2 := fun (wx : World) (q : UInt8) => run_string_add_sum (P := Tryd.prog) wx (r.extract 0 n ++ ⟨#[q]⟩) (r.extract (n + 1) r.size) (by have := extz r 0 n; have := extz r (n + 1) r.size; rw [ByteArray.size_append]; show _ + 1 + _ ≤ _; omega)
      have hcv := conv1
      have hcv2 := conv1d
      have key : ∀ (q : UInt8) (t : ByteArray) (ok : Bool) (d : LabelD), Hid (t = r.extract 0 n ++ ⟨#[q]⟩ ++ r.extract (n + 1) r.size) → Hid (IsLab t.data.toList d ok) → ok = true → (t.toList == r.toList) = true := by
        intro q t ok d ht hd hok
        have hL := H15.out
        have e2 : t.data.toList = r.data.toList.take n ++ [q] ++ r.data.toList.drop (n + 1) := by
          rw [ht.out]
          simp only [ByteArray.data_append, Array.toList_append, ext_take]
          have e3 : (r.data.toList.drop (n + 1)).take (r.size - (n + 1)) = r.data.toList.drop (n + 1) := List.take_of_length_le (by rw [List.length_drop, data_len]; exact Nat.le_refl _)
          rw [e3]; simp
        have e4 : r.data.toList = t.data.toList := by
          refine one_change (i := n) (by rw [← HL.out]; exact lab15_flab hLO.out) (lab_ok15 hd.out hok) hn15 ?_
          intro j hj
          rw [e2]; exact chg_at (by rw [data_len]; omega) j hj
        rw [Lib.toList_data, Lib.toList_data, e4]; simp
      have KEY := Lib.hid key; clear key
      have fin : True := trivial
      by_cases h3 : x3 % 2 = 1
      · have e3 : (x3 % 2 == 1) = true := by simpa using h3
        clear h3
        go_wp2_with fail
        refine (C2.out _ HS).mono ?_
        rintro e w3 ⟨rfl, rfl⟩
        go_wp2_with fail
        go_region
        go_wp2_with fail
        generalize htt : (r.extract 0 n ++ (⟨#[UInt8.ofNat (65 + x2 % 26).toNat]⟩ : ByteArray) ++ r.extract (n + 1) r.size) = t
        have HTT : Hid (t = r.extract 0 n ++ (⟨#[UInt8.ofNat (65 + x2 % 26).toNat]⟩ : ByteArray) ++ r.extract (n + 1) r.size) := Lib.hid htt.symm
        clear htt
        have tz : t.size ≤ 31 := by
          have h1 := extz r 0 n
          have h2 := extz r (n + 1) r.size
          rw [HTT.out, ByteArray.size_append, ByteArray.size_append]; show _ + 1 + _ ≤ _; omega
        refine (parseLabI r _ (by omega) (hT2.keep (by go_grown))).mono ?_
        rintro e w5 ⟨d, ok, rfl, HD, b5⟩
        have hk := (lab_is hLO.out HL.out HD.out).2
        cases ok
        · cases hk
        have b25 : Below w2.heap.size w2 w5 := chain (by go_grown) b5
        have B5 := chain B2 b25
        have hT5 := hT2.keep b25
        clear b5 b25
        go_wp2_with fail
        refine (parseLabI t _ (by omega) (hT5.keep (by go_grown))).mono ?_
        rintro e w6 ⟨d', ok', rfl, HD', b6⟩
        have B6 := chain (B5.alloc B5.size _) b6
        have KK := fun h => KEY.out _ t ok' d' HTT HD' h
        have KK2 := Lib.hid KK; clear KK
        cases hq : (t.toList == r.toList)
        · cases ok'
          · go_wp2_with fail
            go_ret
            exact ⟨rfl, B6.alloc B6.size _⟩
          · exfalso
            have := KK2.out rfl
            rw [hq] at this; cases this
        · go_wp2_with fail
          go_ret
          exact ⟨rfl, B6.alloc B6.size _⟩
      · have e3 : (x3 % 2 == 1) = false := by simpa using h3
        clear h3
        go_wp2_with fail
        go_region
        go_wp2_with fail
        generalize htt : (r.extract 0 n ++ (⟨#[UInt8.ofNat (48 + x2 % 10).toNat]⟩ : ByteArray) ++ r.extract (n + 1) r.size) = t
        have HTT : Hid (t = r.extract 0 n ++ (⟨#[UInt8.ofNat (48 + x2 % 10).toNat]⟩ : ByteArray) ++ r.extract (n + 1) r.size) := Lib.hid htt.symm
        clear htt
        have tz : t.size ≤ 31 := by
          have h1 := extz r 0 n
          have h2 := extz r (n + 1) r.size
          rw [HTT.out, ByteArray.size_append, ByteArray.size_append]; show _ + 1 + _ ≤ _; omega
        refine (parseLabI r _ (by omega) (hT2.keep (by go_grown))).mono ?_
        rintro e w5 ⟨d, ok, rfl, HD, b5⟩
        have hk := (lab_is hLO.out HL.out HD.out).2
        cases ok
        · cases hk
        have b25 : Below w2.heap.size w2 w5 := chain (by go_grown) b5
        have B5 := chain B2 b25
        have hT5 := hT2.keep b25
        clear b5 b25
        go_wp2_with fail
        refine (parseLabI t _ (by omega) (hT5.keep (by go_grown))).mono ?_
        rintro e w6 ⟨d', ok', rfl, HD', b6⟩
        have B6 := chain (B5.alloc B5.size _) b6
        have KK := fun h => KEY.out _ t ok' d' HTT HD' h
        have KK2 := Lib.hid KK; clear KK
        cases hq : (t.toList == r.toList)
        · cases ok'
          · go_wp2_with fail
            go_ret
            exact ⟨rfl, B6.alloc B6.size _⟩
          · exfalso
            have := KK2.out rfl
            rw [hq] at this; cases this
        · go_wp2_with fail
          go_ret
          exact ⟨rfl, B6.alloc B6.size _⟩
  · go_enter Tryd.func13, Tryd.ntmps13
    go_wp2_with fail
    refine (HB.out _ h).mono ?_
    rintro e w0 ⟨rfl, rfl⟩
    go_wp2_with fail
    go_ret
    exact ⟨rfl, Below.refl _ _⟩
end Go.Proofs.YtpodbdmeamgpgaaDoor
