/- What the reference's IsNetwork answers. No condition. -/
import Derived.Test.YtdmeinfdldiegaaNetI
namespace Go.Proofs.Ytdmeinfdldiegaa
open Go.RowKit Go.PlainAid
set_option maxRecDepth 100000
set_option linter.unusedVariables false
set_option maxHeartbeats 6400000 in
theorem isNetS (legs : List LegD) (off : List Int) (ch : Int) (l o : Value) (w : World) (hok : ∀ x ∈ legs, x.ok) (sl : SliceOf w 6 LegD.vals l legs) (so : SliceOf w 1 vI o off) :
    Calls Try.prog 22 #[.agg #[l, o, .int .i64 ch]] w fun e w' => e = .returned (.bool (netB legs off ch)) ∧ Below w.heap.size w w' := by
  obtain ⟨A, c, rfl, hl, hm⟩ := sl.form
  obtain ⟨A', c', rfl, hl', hm'⟩ := so.form
  unfold maxLen at hm hm'
  go_enter Try.func22, Try.ntmps22
  go_wp2_with fail
  obtain ⟨W, hW⟩ : ∃ W, W = w.alloc (.cells #[.slice A legs.length c, .slice A' off.length c', .int .i64 ch] 31) := ⟨_, rfl⟩
  try rw [← hW]
  have x0 : W.cell? ⟨w.heap.size, 0, none⟩ = some (.slice A legs.length c) := by rw [hW]; simp [go_sem]
  have x1 : W.cell? ⟨w.heap.size, 1, none⟩ = some (.slice A' off.length c') := by rw [hW]; simp [go_sem]
  have x2 : W.cell? ⟨w.heap.size, 2, none⟩ = some (.int .i64 ch) := by rw [hW]; simp [go_sem]
  have HW : Below w.heap.size w W := by rw [hW]; go_grown
  have SL := sl.keep HW (Nat.le_refl _)
  have SO := so.keep HW (Nat.le_refl _)
  clear hW sl so
  go_wp2
  go_loopw [3] (fun i wr => ∃ k : Nat, k ≤ legs.length ∧ i = .int .i64 k ∧ Below W.heap.size W wr ∧ Hid (∀ (j : Nat) (x : LegD), j < k → legs[j]? = some x → legOk x = true)) (fun i _ => legs.length - (intOf i).toNat)
  case atStart => exact ⟨0, Nat.zero_le _, rfl, Below.refl _ _, fun j x hj => by omega⟩
  case round =>
    obtain ⟨k, hk, rfl, hB, H⟩ := hrel
    have y0 := cell_keep hB x0
    have y1 := cell_keep hB x1
    have y2 := cell_keep hB x2
    by_cases hlt : k < legs.length
    · obtain ⟨b_, off_, x, rfl, hb_, hx, hc⟩ := SL.cells hlt
      have hxo := hok x (mem_of hx.out)
      obtain ⟨f, t, a, b, c_, d⟩ := x
      have hf := hxo.1
      have ht := hxo.2.1
      simp only at hf ht
      have c0 : wr.cell? ⟨b_, off_ + k * 6, none⟩ = some (.string f) := cell_keep hB (hc 0 _ rfl)
      have c1 : wr.cell? ⟨b_, off_ + k * 6 + 1, none⟩ = some (.string t) := cell_keep hB (hc 1 _ rfl)
      have c2 : wr.cell? ⟨b_, off_ + k * 6 + 2, none⟩ = some (.int .i64 a) := cell_keep hB (hc 2 _ rfl)
      have c3 : wr.cell? ⟨b_, off_ + k * 6 + 3, none⟩ = some (.int .i64 b) := cell_keep hB (hc 3 _ rfl)
      have c4 : wr.cell? ⟨b_, off_ + k * 6 + 4, none⟩ = some (.int .i64 c_) := cell_keep hB (hc 4 _ rfl)
      have c5 : wr.cell? ⟨b_, off_ + k * 6 + 5, none⟩ = some (.int .i64 d) := cell_keep hB (hc 5 _ rfl)
      clear hc hxo
      cases hg : legB f t a b c_ d
      · go_wp2_with (go_at_call 48; refine (isLegS _ _ _ _ _ _ _ hf ht).mono ?_; rintro e w1 ⟨rfl, b1⟩)
        go_ret
        exact ⟨ret_bool (netB_leg hx.out hg).symm, chain HW (hB.trans (b1.mono hB.size))⟩
      · go_wp2_with (go_at_call 48; refine (isLegS _ _ _ _ _ _ _ hf ht).mono ?_; rintro e w1 ⟨rfl, b1⟩)
        go_roundw
        case rel => exact ⟨k + 1, by omega, by go_num, hB.trans (b1.mono hB.size), fun j z hj hz => by
          by_cases e : j = k
          · subst e
            obtain rfl : _ = z := by have := hx.out.symm.trans hz; injection this
            exact hg
          · exact H.out j z (by omega) hz⟩
        case measure => simp [intOf]; omega
    · obtain rfl : k = legs.length := by omega
      obtain ⟨wo, rfl⟩ : ∃ wo : World, wo = wr := ⟨_, rfl⟩
      go_wp2
      go_loopw [4] (fun i wr => ∃ k : Nat, k ≤ off.length ∧ i = .int .i64 k ∧ Below W.heap.size W wr ∧ Hid (∀ (j : Nat) (x : Int), j < k → off[j]? = some x → offOk (prevAt off none j) x = true)) (fun i _ => off.length - (intOf i).toNat)
      case atStart => exact ⟨0, Nat.zero_le _, rfl, hB, fun j x hj => by omega⟩
      case round =>
        obtain ⟨k, hk, rfl, hB2, H2⟩ := hrel
        have z0 := cell_keep hB2 x0
        have z1 := cell_keep hB2 x1
        have z2 := cell_keep hB2 x2
        clear y0 y1 y2
        by_cases hlt : k < off.length
        · obtain ⟨b_, off_, x, rfl, hb_, hx, hc⟩ := at1' SO hlt
          have c0 := cell_keep hB2 hc
          clear hc
          have hk0 : (0 : Int) ≤ (k : Int) := by omega
          have hk1 : (k : Int) < (off.length : Int) := by omega
          cases hr : rng x 0 60
          · go_wp2
            go_quiet ((go_at_call 49; exact quiet_left (l1In_any _ _ _ _)))
            go_wp2
            go_ret
            exact ⟨ret_bool (netB_off hx.out (by unfold offOk; rw [hr]; rfl)).symm, chain HW (below_drewN hB2 _)⟩
          rcases k with _ | m
          · simp only [Nat.add_zero] at c0
            go_wp2
            go_quiet ((go_at_call 49; exact quiet_left (l1In_any _ _ _ _)))
            go_wp2
            go_roundw
            case rel => exact ⟨0 + 1, by omega, by go_num, (below_drewN hB2 _), fun j z hj hz => by
              obtain rfl : j = 0 := by omega
              obtain rfl : x = z := by have := hx.out.symm.trans hz; injection this
              show (rng x 0 60 && true) = true
              rw [hr]; rfl⟩
            case measure => simp [intOf]; omega
          · obtain ⟨b2, off2, y, e2, hb2, hy, hd⟩ := at1' SO (k := m) (by omega)
            injection e2 with e2
            injection e2 with e3 e4
            subst e3 e4
            have d0 := cell_keep hB2 hd
            clear hd
            have hla : prevAt off none (m + 1) = some y := hy.out
            have HLA := Lib.hid hla; clear hla
            have wm : IntKind.i64.wrap (m : Int) = (m : Int) := IntWalk.i64_in _ (by omega)
            have hm0 : (m : Int) < (off.length : Int) := by omega
            have hm1 : (m : Int) + 1 < (off.length : Int) := by omega
            have hm2 : (0 : Int) ≤ (m : Int) + 1 := by omega
            have hm3 : (0 : Int) ≤ (m : Int) := by omega
            by_cases hq : y < x
            · have nq : decide (x ≤ y) = false := by simp; omega
              go_wp2
              go_quiet ((go_at_call 49; exact quiet_left (l1In_any _ _ _ _)))
              go_wp2
              go_roundw
              case rel => exact ⟨(m + 1) + 1, by omega, by go_num, (below_drewN hB2 _), fun j z hj hz => by
                by_cases e : j = m + 1
                · subst e
                  obtain rfl : x = z := by have := hx.out.symm.trans hz; injection this
                  rw [HLA.out]
                  show (rng x 0 60 && decide (y < x)) = true
                  rw [hr, decide_eq_true hq]; rfl
                · exact H2.out j z (by omega) hz⟩
              case measure => simp [intOf]; omega
            · have nq : decide (x ≤ y) = true := by simp; omega
              have nq' : x ≤ y := by omega
              go_wp2
              go_quiet ((go_at_call 49; exact quiet_left (l1In_any _ _ _ _)))
              go_wp2
              go_ret
              exact ⟨ret_bool (netB_off hx.out (by rw [HLA.out]; show (rng x 0 60 && decide (y < x)) = false; rw [decide_eq_false (show ¬ y < x by omega)]; simp)).symm, chain HW (below_drewN hB2 _)⟩
        · obtain rfl : k = off.length := by omega
          have hg := netB_end (ch := ch) (fun j z hj => H.out j z (List.getElem?_eq_some_iff.1 hj).1 hj) (fun j z hj => H2.out j z (List.getElem?_eq_some_iff.1 hj).1 hj)
          have HG := Lib.hid hg; clear hg
          by_cases q1 : legs.length ≤ 20
          · by_cases q2 : off.length ≤ 10
            · go_wp2_with (go_at_call 49; refine (l1In_any _ _ _ _).mono ?_; rintro e w' ⟨rfl, rfl⟩)
              go_ret
              exact ⟨ret_bool (by rw [HG.out]; simp [q1, q2]), chain HW hB2⟩
            · go_wp2_with (go_at_call 49; refine (l1In_any _ _ _ _).mono ?_; rintro e w' ⟨rfl, rfl⟩)
              go_ret
              exact ⟨ret_bool (by rw [HG.out]; simp [q2]), chain HW hB2⟩
          · go_wp2_with (go_at_call 49; refine (l1In_any _ _ _ _).mono ?_; rintro e w' ⟨rfl, rfl⟩)
            go_ret
            exact ⟨ret_bool (by rw [HG.out]; simp [q1]), chain HW hB2⟩
end Go.Proofs.Ytdmeinfdldiegaa
