/- The law FnOneSwap walked: it returns true. No condition. -/
import Derived.Test.YtpodbdmeamgpgaaDoorLabFacts
import Derived.Test.YtpodbdmeamgpgaaDoorWExactParseLabel
import Derived.Test.YtpodbdmeamgpgaaDoorDrawLab
import Derived.Test.YtpodbdmeamgpgaaDoorAt
import Derived.Test.YtpodbdmeamgpgaaDoorSwap
import Derived.RegionTactic
namespace Go.Proofs.YtpodbdmeamgpgaaDoor
open Go.RowKit Go.PlainAid
open Go.Lib (itoa decDigits decDigits_two)
set_option maxRecDepth 100000
set_option linter.unusedVariables false
set_option maxHeartbeats 8000000 in
theorem walk_OneSwap (v0 : Value) (w : World) (h0 : VBytes w v0) (ht : Errs w) : Calls Tryd.prog 15 #[v0] w fun e w' => e = .returned (.bool true) ∧ Below w.heap.size w w' := by
  obtain ⟨xs, hxs, h⟩ := h0
  obtain ⟨A, c, rfl, hle, hm⟩ := h.form
  have hbig := fun W (hW : SliceOf W 1 vB (.slice A xs.length c) xs) => big_any xs _ W hW
  have HB := Lib.hid hbig; clear hbig
  cases hb : decide (4096 < (xs.length : Int))
  · go_enter Tryd.func15, Tryd.ntmps15
    go_wp2_with fail
    refine (HB.out _ h).mono ?_
    rintro e w0 ⟨rfl, rfl⟩
    go_wp2_with fail
    refine (drawFormat_any xs _ _ h).mono ?_
    rintro e w1 ⟨a, b, s, rfl, oa, ob, os, b1⟩
    have hs3 : s.size ≤ maxLen := names_size os
    have hT1 := ht.keep b1
    have HS := h.keep b1 (Nat.le_refl _)
    go_wp2_with fail
    refine (flabS a b s _ hs3 (hT1).1).mono ?_
    rintro e w2 ⟨r, rfl, HR, hr, b2⟩
    have HRS := Lib.hid hr; clear hr
    have B2 := chain b1 b2
    have hT2 := hT1.keep b2
    replace HS := HS.keep b2 (Nat.le_refl _)
    cases hl : labOk ⟨a, b, s⟩
    · have he := emp_of (HR.out.trans (flabOf_no hl))
      go_wp2_with fail
      go_ret
      exact ⟨rfl, B2⟩
    · have hr15 : r.size = 15 := by rw [HRS.out, flabOf_yes hl, flab_len hl]
      have he := notemp_of (r := r) (by omega)
      have HL : Hid (flabL ⟨a, b, s⟩ = r.data.toList) := Lib.hid ((flabOf_yes hl).symm.trans HR.out.symm)
      have hLO := Lib.hid hl
      have a1 := atV_bd hxs 1
      have c1 := fun W (hW : SliceOf W 1 vB (.slice A xs.length c) xs) => at_any xs _ 1 W (by omega) hxs hW
      generalize atV xs 1 = x1 at a1 c1
      obtain ⟨a10, a11⟩ := a1
      have C1 := Lib.hid c1; clear c1
      obtain ⟨n, hn⟩ : ∃ n : Nat, x1 % 14 = (n : Int) := ⟨(x1 % 14).toNat, by omega⟩
      have hn14 : n < 14 := by omega
      have hd1 : (swp r n).data.toList = swapL r.data.toList n := swp_data r n
      have hsz : (swp r n).size = 15 := by rw [← data_len, hd1, swapL_len (by rw [data_len]; omega), data_len, hr15]
      have sw1 := fun W => swapI r (n : Int) W (by omega) (by unfold okI; omega)
      have e1 : swapAt r (n : Int) = swp r n := by unfold swapAt; rw [if_pos ⟨by omega, by omega⟩]; rfl
      rw [e1] at sw1
      have sw2 := fun W => swapI (swp r n) (n : Int) W (by omega) (by unfold okI; omega)
      have e2 : swapAt (swp r n) (n : Int) = r := by
        have : swapAt (swp r n) (n : Int) = swp (swp r n) n := by unfold swapAt; rw [if_pos ⟨by omega, by omega⟩]; rfl
        rw [this]
        exact data_inj (by rw [swp_data, swp_data, swapL_back (by rw [data_len]; omega)])
      rw [e2] at sw2
      have hkey : Lab15 (swp r n).data.toList → (swp r n).data.toList = r.data.toList := by
        rw [hd1]; intro hh
        exact one_swap (by rw [← HL.out]; exact lab15_flab hl) hn14 hh
      have e15 : (((swp r n).size : Int) == 15) = true := by rw [hsz]; rfl
      have t15 : (swp r n).size ≤ 15 := by omega
      generalize swp r n = t at *
      have SW1 := Lib.hid sw1; have SW2 := Lib.hid sw2; have HK := Lib.hid hkey
      clear sw1 sw2 e1 e2 hkey hd1 hsz hr15 hl
      have hx : ∀ W, Calls Tryd.prog 49 #[.string r, .int .i64 (x1 % 14)] W fun e w' => e = .returned (.string t) ∧ Below W.heap.size W w' := fun W => by rw [hn]; exact SW1.out W
      have hy : ∀ W, Calls Tryd.prog 49 #[.string t, .int .i64 (x1 % 14)] W fun e w' => e = .returned (.string r) ∧ Below W.heap.size W w' := fun W => by rw [hn]; exact SW2.out W
      have HX := Lib.hid hx; have HY := Lib.hid hy
      clear hx hy SW1 SW2 hn
      go_wp2_with fail
      refine (C1.out _ HS).mono ?_
      rintro e w3 ⟨rfl, rfl⟩
      go_wp2_with fail
      refine (HX.out _).mono ?_
      rintro e w4 ⟨rfl, b4⟩
      have B4 := chain B2 b4
      have hT4 := hT2.keep b4
      replace HS := HS.keep b4 (Nat.le_refl _)
      go_wp2_with fail
      refine (parseLabI t _ (by omega) hT4).mono ?_
      rintro e w5 ⟨d, ok, rfl, HD, b5⟩
      have B5 := chain B4 b5
      replace HS := HS.keep b5 (Nat.le_refl _)
      go_wp2_with fail
      refine (C1.out _ (HS.keep (by go_grown) (Nat.le_refl _))).mono ?_
      rintro e w6 ⟨rfl, rfl⟩
      go_wp2_with fail
      refine (HY.out _).mono ?_
      rintro e w6 ⟨rfl, b6⟩
      have B6 := chain (B5.alloc B5.size _) b6
      cases hq : (t.toList == r.toList)
      · cases ok
        · go_wp2_with fail
          go_ret
          exact ⟨rfl, B6⟩
        · exfalso
          have := HK.out (lab_ok15 HD.out rfl)
          rw [Lib.toList_data, Lib.toList_data, this] at hq
          simp at hq
      · go_wp2_with fail
        go_ret
        exact ⟨rfl, B6⟩
  · go_enter Tryd.func15, Tryd.ntmps15
    go_wp2_with fail
    refine (HB.out _ h).mono ?_
    rintro e w0 ⟨rfl, rfl⟩
    go_wp2_with fail
    go_ret
    exact ⟨rfl, Below.refl _ _⟩
end Go.Proofs.YtpodbdmeamgpgaaDoor
