/- The library's sort: the partial insertion sort says true of a sorted range alone. No condition. -/
import Derived.Test.YthpgnlmkgllonaaPdqA
namespace Go.Proofs.Ythpgnlmkgllonaa
open Go.RowKit Go.PlainAid
open SB
set_option maxRecDepth 100000
set_option linter.unusedVariables false
variable {α : Type}
/-- What a function of the sort answers that also returns a value. -/
def SPostV (row : Nat) (St : World → (Nat → α) → Prop) (R : (Nat → α) → Value → Prop) (w : World) (e : Ending) (w' : World) : Prop := ∃ d' v, e = .returned v ∧ St w' d' ∧ Hid (R d' v) ∧ w.grownBy w' (some row)
theorem Srt_snoc {lt : α → α → Bool} (O : Ord lt) {e : Nat → α} {a i : Nat} (h : Srt lt e a i) (hi : a < i) (hl : lt (e i) (e (i - 1)) = false) : Srt lt e a (i + 1) := fun x y x0 xy y1 => by
  by_cases hy : y < i
  · exact h x y x0 xy hy
  · obtain rfl : y = i := by omega
    by_cases hx : x = y - 1
    · subst hx; exact hl
    · exact O.trans _ _ _ (h x (y - 1) x0 (by omega) (by omega)) hl
def PartR (lt : α → α → Bool) (a b : Nat) (d d' : Nat → α) (v : Value) : Prop := Mv a b d d' ∧ ∃ r : Bool, v = .bool r ∧ (r = true → Srt lt d' a b)
set_option maxHeartbeats 6400000 in
theorem partial_r {bs B : Nat} {rl rs : Value} {lt : α → α → Bool} {n row : Nat} {St : World → (Nat → α) → Prop} (E : REnv bs B rl rs lt n row St) (O : Ord lt) (a b : Nat) (x y : Int) (hx : x = (a : Int)) (hy : y = (b : Int)) (w : World) (d : Nat → α) (h : St w d) (h1 : a < b) (h2 : b ≤ n) (hn : n < 1099511627776) (HL : Hid (SB.Left lt d a b)) :
    Calls Try.prog 22 #[.iface 36 (.pointer (some ⟨B, 0, none⟩)), .int .i64 x, .int .i64 y] w (SPostV row St (PartR lt a b d) w) := by
  subst hx hy
  have hR := Lib.hid E
  have HO := Lib.hid O
  go_enter Try.func22, Try.ntmps22
  go_wp2_with fail
  go_loopw [7, 8, 9, 10] (fun iv tv _ _ wr => ∃ (i t : Nat) (e : Nat → α), a < i ∧ i ≤ b ∧ t ≤ 5 ∧ iv = .int .i64 (i : Int) ∧ tv = .int .i64 (t : Int) ∧ St wr e ∧ Hid (Srt lt e a i ∧ Mv a b d e) ∧ w.grownBy wr (some row)) (fun _ tv _ _ _ => 5 - (intOf tv).toNat)
  case atStart => exact ⟨a + 1, 0, d, by omega, by omega, by omega, by go_num, rfl, h, Lib.hid ⟨Srt.one lt d (Nat.le_refl _), Mv.refl _ _ _⟩, gr_refl w row⟩
  case round =>
    obtain ⟨i, t, e, i0, i1, t0, rfl, rfl, hW, HE, hG⟩ := hrel
    by_cases ht : t < 5
    · have ht' : (t : Int) < 5 := by omega
      obtain ⟨wo, rfl⟩ : ∃ wo : World, wo = wr := ⟨_, rfl⟩
      go_wp2_with fail
      go_loopw [7] (fun iv wr => ∃ i : Nat, a < i ∧ i ≤ b ∧ iv = .int .i64 (i : Int) ∧ St wr e ∧ Hid (Srt lt e a i) ∧ w.grownBy wr (some row)) (fun iv _ => b - (intOf iv).toNat)
      case atStart => exact ⟨i, i0, i1, rfl, hW, Lib.hid HE.out.1, hG⟩
      case round =>
        clear hG hW
        obtain ⟨i, i0, i1, rfl, hW, HI, hG⟩ := hrel
        by_cases hib : i < b
        · have hib' : (i : Int) < (b : Int) := by omega
          have ml := hR.out.mless hW
          have hl := hR.out.less (w := wr) i (i - 1) (i : Int) ((i : Int) - 1) rfl (by omega) hW (by omega) (by omega)
          cases hlv : lt (e i) (e (i - 1))
          · rw [hlv] at hl
            have NEW := Lib.hid (Srt_snoc HO.out HI.out i0 hlv)
            clear hlv
            go_wp2_with fail
            refine hl.mono ?_
            rintro e' w1 ⟨rfl, hb⟩
            clear hl ml
            go_wp2_with fail
            go_roundw
            case rel => exact ⟨i + 1, by omega, by omega, by go_num, hR.out.keep hW hb, NEW, gr_below hG hb⟩
            case measure => simp [intOf]; omega
          · rw [hlv] at hl
            clear hlv
            have hne : ((i : Int) == (b : Int)) = false := by simp; omega
            by_cases h50 : (b : Int) - (a : Int) < 50
            · go_wp2_with fail
              refine hl.mono ?_
              rintro e' w1 ⟨rfl, hb⟩
              clear hl ml
              go_wp2_with fail
              go_ret
              exact ⟨e, _, rfl, hR.out.keep hW hb, Lib.hid ⟨HE.out.2, false, rfl, fun h => Bool.noConfusion h⟩, gr_below hG hb⟩
            · go_wp2_with fail
              refine hl.mono ?_
              rintro e' w1 ⟨rfl, hb⟩
              clear hl ml
              have hW1 := hR.out.keep hW hb
              have hG1 := gr_below hG hb
              clear hW hG hb
              have ms := hR.out.mswap hW1
              have hsw := hR.out.swap (w := w1) i (i - 1) (i : Int) ((i : Int) - 1) rfl (by omega) hW1 (by omega) (by omega)
              obtain ⟨e1, he1⟩ : ∃ e1, e1 = swp e i (i - 1) := ⟨_, rfl⟩
              rw [← he1] at hsw
              have HM1 : Hid (Srt lt e1 a (i - 1) ∧ Mv a b d e1) := Lib.hid (by
                rw [he1]
                refine ⟨(HI.out.sub (Nat.le_refl _) (by omega)).congr fun k k1 k2 => ?_, HE.out.2.trans (Mv.swp _ ⟨by omega, by omega⟩ ⟨by omega, by omega⟩)⟩
                unfold swp; rw [if_neg (by omega), if_neg (by omega)])
              clear he1
              go_wp2_with fail
              refine hsw.mono ?_
              rintro e' w2 ⟨rfl, hS2, hg2⟩
              clear hsw ms
              have hG2 := gr_trans hG1 hg2
              clear hG1 hg2 hW1
              by_cases hia : a + 2 ≤ i
              · have hia' : (2 : Int) ≤ (i : Int) - (a : Int) := by omega
                go_wp2_with fail
                go_loopw [9] (fun jv wr => ∃ (j : Nat) (f : Nat → α), a ≤ j ∧ j + 1 ≤ i ∧ jv = .int .i64 (j : Int) ∧ St wr f ∧ Hid (f = Dn j (i - 1) e1) ∧ Hid (j < i - 1 → lt (e1 (i - 1)) (e1 j) = true) ∧ w.grownBy wr (some row)) (fun jv _ => (intOf jv).toNat)
                case atStart => exact ⟨i - 1, e1, by omega, by omega, by congr 1; omega, hS2, Lib.hid (Dn.zero (i - 1) e1).symm, Lib.hid (fun h => by omega), hG2⟩
                case round =>
                  clear hS2 hG2
                  obtain ⟨j, f, j0, j1, rfl, hW, HF, HJ, hG⟩ := hrel
                  have done : (a < j → lt (e1 (i - 1)) (e1 (j - 1)) = false) → Hid (Srt lt f a i ∧ Mv a b d f) := fun hl => Lib.hid (by
                    rw [HF.out]
                    have s1 := srt_ins HO.out HM1.out.1 j0 (by omega) hl HJ.out
                    rw [show i - 1 + 1 = i by omega] at s1
                    exact ⟨s1, HM1.out.2.trans (Dn.mv e1 (by omega) j0 (by omega))⟩)
                  have DONE := Lib.hid done; clear done
                  by_cases hj1 : 1 ≤ j
                  · have hj1' : (1 : Int) ≤ (j : Int) := by omega
                    have ml := hR.out.mless hW
                    have hl := hR.out.less (w := wr) j (j - 1) (j : Int) ((j : Int) - 1) rfl (by omega) hW (by omega) (by omega)
                    by_cases hja : a < j
                    · rw [show lt (f j) (f (j - 1)) = lt (e1 (i - 1)) (e1 (j - 1)) by rw [HF.out, Dn.top, Dn.under _ (by omega)]] at hl
                      cases hlv : lt (e1 (i - 1)) (e1 (j - 1))
                      · rw [hlv] at hl
                        have D := DONE.out (fun _ => hlv)
                        clear hlv
                        go_wp2_with fail
                        refine hl.mono ?_
                        rintro e' w4 ⟨rfl, hb⟩
                        clear hl ml
                        have hW4 := hR.out.keep hW hb
                        have hG4 := gr_below hG hb
                        clear hW hG hb
                        by_cases hbi : i + 2 ≤ b
                        · have hbi' : (2 : Int) ≤ (b : Int) - (i : Int) := by omega
                          go_wp2_with fail
                          go_loopw [10] (fun jv wr => ∃ (j : Nat) (g : Nat → α), i < j ∧ j ≤ b ∧ jv = .int .i64 (j : Int) ∧ St wr g ∧ Hid (Srt lt g a i ∧ Mv a b d g) ∧ w.grownBy wr (some row)) (fun jv _ => b - (intOf jv).toNat)
                          case atStart => exact ⟨i + 1, f, by omega, by omega, by go_num, hW4, D, hG4⟩
                          case round =>
                            obtain ⟨j, g, j0, j1, rfl, hW, HG3, hG⟩ := hrel
                            by_cases hjb : j < b
                            · have hjb' : (j : Int) < (b : Int) := by omega
                              have ml := hR.out.mless hW
                              have hl := hR.out.less (w := wr) j (j - 1) (j : Int) ((j : Int) - 1) rfl (by omega) hW (by omega) (by omega)
                              cases hlv : lt (g j) (g (j - 1))
                              · rw [hlv] at hl
                                clear hlv
                                go_wp2_with fail
                                refine hl.mono ?_
                                rintro e' w5 ⟨rfl, hb⟩
                                clear hl ml
                                go_wp2_with fail
                                go_roundw
                                case rel => exact ⟨i, t + 1, g, i0, i1, by omega, rfl, by go_num, hR.out.keep hW hb, HG3, gr_below hG hb⟩
                                case measure => simp [intOf]; omega
                              · rw [hlv] at hl
                                clear hlv
                                go_wp2_with fail
                                refine hl.mono ?_
                                rintro e' w5 ⟨rfl, hb⟩
                                clear hl ml
                                have hW5 := hR.out.keep hW hb
                                have ms := hR.out.mswap hW5
                                have hsw := hR.out.swap (w := w5) j (j - 1) (j : Int) ((j : Int) - 1) rfl (by omega) hW5 (by omega) (by omega)
                                have NEW : Hid (Srt lt (swp g j (j - 1)) a i ∧ Mv a b d (swp g j (j - 1))) := Lib.hid ⟨HG3.out.1.congr fun k k1 k2 => by unfold swp; rw [if_neg (by omega), if_neg (by omega)], HG3.out.2.trans (Mv.swp _ ⟨by omega, by omega⟩ ⟨by omega, by omega⟩)⟩
                                go_wp2_with fail
                                refine hsw.mono ?_
                                rintro e' w6 ⟨rfl, hS6, hg6⟩
                                clear hsw ms
                                go_wp2_with fail
                                go_roundw
                                case rel => exact ⟨j + 1, _, by omega, by omega, by go_num, hS6, NEW, gr_trans (gr_below hG hb) hg6⟩
                                case measure => simp [intOf]; omega
                            · obtain rfl : j = b := by omega
                              have hjb' : ¬ (j : Int) < (j : Int) := by omega
                              go_wp2_with fail
                              go_roundw
                              case rel => exact ⟨i, t + 1, g, i0, i1, by omega, rfl, by go_num, hW, HG3, hG⟩
                              case measure => simp [intOf]; omega
                        · have hbi' : ¬ (2 : Int) ≤ (b : Int) - (i : Int) := by omega
                          go_wp2_with fail
                          go_roundw
                          case rel => exact ⟨i, t + 1, f, i0, i1, by omega, rfl, by go_num, hW4, D, hG4⟩
                          case measure => simp [intOf]; omega
                      · rw [hlv] at hl
                        have HLV := Lib.hid hlv; clear hlv
                        go_wp2_with fail
                        refine hl.mono ?_
                        rintro e' w4 ⟨rfl, hb⟩
                        clear hl ml
                        have hW4 := hR.out.keep hW hb
                        have ms := hR.out.mswap hW4
                        have hsw := hR.out.swap (w := w4) j (j - 1) (j : Int) ((j : Int) - 1) rfl (by omega) hW4 (by omega) (by omega)
                        go_wp2_with fail
                        refine hsw.mono ?_
                        rintro e' w5 ⟨rfl, hS5, hg5⟩
                        clear hsw ms
                        go_wp2_with fail
                        go_roundw
                        case rel => exact ⟨j - 1, _, by omega, by omega, by congr 1; omega, hS5, Lib.hid (by rw [HF.out]; have := Dn.succ (k := j - 1) (m := i - 1) e1 (by omega); rwa [show j - 1 + 1 = j by omega] at this), Lib.hid (fun _ => HLV.out), gr_trans (gr_below hG hb) hg5⟩
                        case measure => simp [intOf]; omega
                    · have hja2 : j = a := by omega
                      have D := DONE.out (fun h => by omega)
                      have HJA := Lib.hid hja2
                      have hlv : lt (f j) (f (j - 1)) = false := by
                        have := HL.out.mv D.out.2
                        rcases this with q | q
                        · omega
                        · rw [hja2]; exact q a (Nat.le_refl _) (by omega)
                      clear hja2
                      rw [hlv] at hl
                      clear hlv
                      go_wp2_with fail
                      refine hl.mono ?_
                      rintro e' w4 ⟨rfl, hb⟩
                      clear hl ml
                      have hW4 := hR.out.keep hW hb
                      have hG4 := gr_below hG hb
                      clear hW hG hb
                      by_cases hbi : i + 2 ≤ b
                      · have hbi' : (2 : Int) ≤ (b : Int) - (i : Int) := by omega
                        go_wp2_with fail
                        go_loopw [10] (fun jv wr => ∃ (j : Nat) (g : Nat → α), i < j ∧ j ≤ b ∧ jv = .int .i64 (j : Int) ∧ St wr g ∧ Hid (Srt lt g a i ∧ Mv a b d g) ∧ w.grownBy wr (some row)) (fun jv _ => b - (intOf jv).toNat)
                        case atStart => exact ⟨i + 1, f, by omega, by omega, by go_num, hW4, D, hG4⟩
                        case round =>
                          obtain ⟨j, g, j0, j1, rfl, hW, HG3, hG⟩ := hrel
                          by_cases hjb : j < b
                          · have hjb' : (j : Int) < (b : Int) := by omega
                            have ml := hR.out.mless hW
                            have hl := hR.out.less (w := wr) j (j - 1) (j : Int) ((j : Int) - 1) rfl (by omega) hW (by omega) (by omega)
                            cases hlv : lt (g j) (g (j - 1))
                            · rw [hlv] at hl
                              clear hlv
                              go_wp2_with fail
                              refine hl.mono ?_
                              rintro e' w5 ⟨rfl, hb⟩
                              clear hl ml
                              go_wp2_with fail
                              go_roundw
                              case rel => exact ⟨i, t + 1, g, i0, i1, by omega, rfl, by go_num, hR.out.keep hW hb, HG3, gr_below hG hb⟩
                              case measure => simp [intOf]; omega
                            · rw [hlv] at hl
                              clear hlv
                              go_wp2_with fail
                              refine hl.mono ?_
                              rintro e' w5 ⟨rfl, hb⟩
                              clear hl ml
                              have hW5 := hR.out.keep hW hb
                              have ms := hR.out.mswap hW5
                              have hsw := hR.out.swap (w := w5) j (j - 1) (j : Int) ((j : Int) - 1) rfl (by omega) hW5 (by omega) (by omega)
                              have NEW : Hid (Srt lt (swp g j (j - 1)) a i ∧ Mv a b d (swp g j (j - 1))) := Lib.hid ⟨HG3.out.1.congr fun k k1 k2 => by unfold swp; rw [if_neg (by omega), if_neg (by omega)], HG3.out.2.trans (Mv.swp _ ⟨by omega, by omega⟩ ⟨by omega, by omega⟩)⟩
                              go_wp2_with fail
                              refine hsw.mono ?_
                              rintro e' w6 ⟨rfl, hS6, hg6⟩
                              clear hsw ms
                              go_wp2_with fail
                              go_roundw
                              case rel => exact ⟨j + 1, _, by omega, by omega, by go_num, hS6, NEW, gr_trans (gr_below hG hb) hg6⟩
                              case measure => simp [intOf]; omega
                          · obtain rfl : j = b := by omega
                            have hjb' : ¬ (j : Int) < (j : Int) := by omega
                            go_wp2_with fail
                            go_roundw
                            case rel => exact ⟨i, t + 1, g, i0, i1, by omega, rfl, by go_num, hW, HG3, hG⟩
                            case measure => simp [intOf]; omega
                      · have hbi' : ¬ (2 : Int) ≤ (b : Int) - (i : Int) := by omega
                        go_wp2_with fail
                        go_roundw
                        case rel => exact ⟨i, t + 1, f, i0, i1, by omega, rfl, by go_num, hW4, D, hG4⟩
                        case measure => simp [intOf]; omega
                  · obtain rfl : j = 0 := by omega
                    have hj1' : ¬ (1 : Int) ≤ ((0 : Nat) : Int) := by omega
                    have D := DONE.out (fun h => by omega)
                    by_cases hbi : i + 2 ≤ b
                    · have hbi' : (2 : Int) ≤ (b : Int) - (i : Int) := by omega
                      go_wp2_with fail
                      go_loopw [10] (fun jv wr => ∃ (j : Nat) (g : Nat → α), i < j ∧ j ≤ b ∧ jv = .int .i64 (j : Int) ∧ St wr g ∧ Hid (Srt lt g a i ∧ Mv a b d g) ∧ w.grownBy wr (some row)) (fun jv _ => b - (intOf jv).toNat)
                      case atStart => exact ⟨i + 1, f, by omega, by omega, by go_num, hW, D, hG⟩
                      case round =>
                        obtain ⟨j, g, j0, j1, rfl, hW, HG3, hG⟩ := hrel
                        by_cases hjb : j < b
                        · have hjb' : (j : Int) < (b : Int) := by omega
                          have ml := hR.out.mless hW
                          have hl := hR.out.less (w := wr) j (j - 1) (j : Int) ((j : Int) - 1) rfl (by omega) hW (by omega) (by omega)
                          cases hlv : lt (g j) (g (j - 1))
                          · rw [hlv] at hl
                            clear hlv
                            go_wp2_with fail
                            refine hl.mono ?_
                            rintro e' w5 ⟨rfl, hb⟩
                            clear hl ml
                            go_wp2_with fail
                            go_roundw
                            case rel => exact ⟨i, t + 1, g, i0, i1, by omega, rfl, by go_num, hR.out.keep hW hb, HG3, gr_below hG hb⟩
                            case measure => simp [intOf]; omega
                          · rw [hlv] at hl
                            clear hlv
                            go_wp2_with fail
                            refine hl.mono ?_
                            rintro e' w5 ⟨rfl, hb⟩
                            clear hl ml
                            have hW5 := hR.out.keep hW hb
                            have ms := hR.out.mswap hW5
                            have hsw := hR.out.swap (w := w5) j (j - 1) (j : Int) ((j : Int) - 1) rfl (by omega) hW5 (by omega) (by omega)
                            have NEW : Hid (Srt lt (swp g j (j - 1)) a i ∧ Mv a b d (swp g j (j - 1))) := Lib.hid ⟨HG3.out.1.congr fun k k1 k2 => by unfold swp; rw [if_neg (by omega), if_neg (by omega)], HG3.out.2.trans (Mv.swp _ ⟨by omega, by omega⟩ ⟨by omega, by omega⟩)⟩
                            go_wp2_with fail
                            refine hsw.mono ?_
                            rintro e' w6 ⟨rfl, hS6, hg6⟩
                            clear hsw ms
                            go_wp2_with fail
                            go_roundw
                            case rel => exact ⟨j + 1, _, by omega, by omega, by go_num, hS6, NEW, gr_trans (gr_below hG hb) hg6⟩
                            case measure => simp [intOf]; omega
                        · obtain rfl : j = b := by omega
                          have hjb' : ¬ (j : Int) < (j : Int) := by omega
                          go_wp2_with fail
                          go_roundw
                          case rel => exact ⟨i, t + 1, g, i0, i1, by omega, rfl, by go_num, hW, HG3, hG⟩
                          case measure => simp [intOf]; omega
                    · have hbi' : ¬ (2 : Int) ≤ (b : Int) - (i : Int) := by omega
                      go_wp2_with fail
                      go_roundw
                      case rel => exact ⟨i, t + 1, f, i0, i1, by omega, rfl, by go_num, hW, D, hG⟩
                      case measure => simp [intOf]; omega
              · have hia' : ¬ (2 : Int) ≤ (i : Int) - (a : Int) := by omega
                have D : Hid (Srt lt e1 a i ∧ Mv a b d e1) := Lib.hid ⟨Srt.one lt e1 (by omega), HM1.out.2⟩
                by_cases hbi : i + 2 ≤ b
                · have hbi' : (2 : Int) ≤ (b : Int) - (i : Int) := by omega
                  go_wp2_with fail
                  go_loopw [10] (fun jv wr => ∃ (j : Nat) (g : Nat → α), i < j ∧ j ≤ b ∧ jv = .int .i64 (j : Int) ∧ St wr g ∧ Hid (Srt lt g a i ∧ Mv a b d g) ∧ w.grownBy wr (some row)) (fun jv _ => b - (intOf jv).toNat)
                  case atStart => exact ⟨i + 1, e1, by omega, by omega, by go_num, hS2, D, hG2⟩
                  case round =>
                    obtain ⟨j, g, j0, j1, rfl, hW, HG3, hG⟩ := hrel
                    by_cases hjb : j < b
                    · have hjb' : (j : Int) < (b : Int) := by omega
                      have ml := hR.out.mless hW
                      have hl := hR.out.less (w := wr) j (j - 1) (j : Int) ((j : Int) - 1) rfl (by omega) hW (by omega) (by omega)
                      cases hlv : lt (g j) (g (j - 1))
                      · rw [hlv] at hl
                        clear hlv
                        go_wp2_with fail
                        refine hl.mono ?_
                        rintro e' w5 ⟨rfl, hb⟩
                        clear hl ml
                        go_wp2_with fail
                        go_roundw
                        case rel => exact ⟨i, t + 1, g, i0, i1, by omega, rfl, by go_num, hR.out.keep hW hb, HG3, gr_below hG hb⟩
                        case measure => simp [intOf]; omega
                      · rw [hlv] at hl
                        clear hlv
                        go_wp2_with fail
                        refine hl.mono ?_
                        rintro e' w5 ⟨rfl, hb⟩
                        clear hl ml
                        have hW5 := hR.out.keep hW hb
                        have ms := hR.out.mswap hW5
                        have hsw := hR.out.swap (w := w5) j (j - 1) (j : Int) ((j : Int) - 1) rfl (by omega) hW5 (by omega) (by omega)
                        have NEW : Hid (Srt lt (swp g j (j - 1)) a i ∧ Mv a b d (swp g j (j - 1))) := Lib.hid ⟨HG3.out.1.congr fun k k1 k2 => by unfold swp; rw [if_neg (by omega), if_neg (by omega)], HG3.out.2.trans (Mv.swp _ ⟨by omega, by omega⟩ ⟨by omega, by omega⟩)⟩
                        go_wp2_with fail
                        refine hsw.mono ?_
                        rintro e' w6 ⟨rfl, hS6, hg6⟩
                        clear hsw ms
                        go_wp2_with fail
                        go_roundw
                        case rel => exact ⟨j + 1, _, by omega, by omega, by go_num, hS6, NEW, gr_trans (gr_below hG hb) hg6⟩
                        case measure => simp [intOf]; omega
                    · obtain rfl : j = b := by omega
                      have hjb' : ¬ (j : Int) < (j : Int) := by omega
                      go_wp2_with fail
                      go_roundw
                      case rel => exact ⟨i, t + 1, g, i0, i1, by omega, rfl, by go_num, hW, HG3, hG⟩
                      case measure => simp [intOf]; omega
                · have hbi' : ¬ (2 : Int) ≤ (b : Int) - (i : Int) := by omega
                  exfalso; omega
        · have hib2 : i = b := by omega
          have hib' : ¬ (i : Int) < (b : Int) := by omega
          have hieq : ((i : Int) == (b : Int)) = true := by simp [hib2]
          have HI2 : Hid (Srt lt e a b) := Lib.hid (by rw [← hib2]; exact HI.out)
          clear hib2
          go_wp2_with fail
          go_ret
          exact ⟨e, _, rfl, hW, Lib.hid ⟨HE.out.2, true, rfl, fun _ => HI2.out⟩, hG⟩
    · have ht' : ¬ (t : Int) < 5 := by omega
      go_wp2_with fail
      go_ret
      exact ⟨e, _, rfl, hW, Lib.hid ⟨HE.out.2, false, rfl, fun h => Bool.noConfusion h⟩, hG⟩
end Go.Proofs.Ythpgnlmkgllonaa
