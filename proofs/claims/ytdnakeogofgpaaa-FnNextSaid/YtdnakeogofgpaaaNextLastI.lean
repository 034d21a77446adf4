/- The program's next, NextTrip and LastTrip. No condition. -/
import Derived.Test.YtdnakeogofgpaaaNextLast
namespace Go.Proofs.Ytdnakeogofgpaaa
open Go.RowKit Go.PlainAid
set_option maxRecDepth 100000
set_option linter.unusedVariables false
set_option maxHeartbeats 6400000 in
theorem nextI (legs : List LegD) (off : List Int) (ch leg q : Int) (l o : Value) (w : World) (hnet : netB legs off ch = true) (hleg : okI leg) (hq : okI q) (sl : SliceOf w 6 LegD.vals l legs) (so : SliceOf w 1 vI o off) :
    Calls Try.prog 36 #[.agg #[l, o, .int .i64 ch], .int .i64 leg, .int .i64 q] w fun e w' => e = .returned (.tuple #[.agg #[.int .i64 (nextL legs off ch leg q), .int .i64 (nextE legs off ch leg q)], .bool (nextF legs off ch leg q)]) ∧ Below w.heap.size w w' := by
  obtain ⟨A, c, rfl, -, -⟩ := sl.form
  obtain ⟨A', c', rfl, -, -⟩ := so.form
  go_enter Try.func36, Try.ntmps36
  go_wp2_with fail
  obtain ⟨W, hW⟩ : ∃ W, W = (w.alloc (.cells #[.slice A legs.length c, .slice A' off.length c', .int .i64 ch] 35)).alloc (.cells #[.int .i64 0, .int .i64 0] 39) := ⟨_, rfl⟩
  try rw [← hW]
  have x0 : W.cell? ⟨w.heap.size, 0, none⟩ = some (.slice A legs.length c) := by rw [hW]; simp [go_sem]
  have x1 : W.cell? ⟨w.heap.size, 1, none⟩ = some (.slice A' off.length c') := by rw [hW]; simp [go_sem]
  have x2 : W.cell? ⟨w.heap.size, 2, none⟩ = some (.int .i64 ch) := by rw [hW]; simp [go_sem]
  have z0 : W.cell? ⟨w.heap.size + 1, 0, none⟩ = some (.int .i64 0) := by rw [hW]; simp [go_sem]
  have z1 : W.cell? ⟨w.heap.size + 1, 1, none⟩ = some (.int .i64 0) := by rw [hW]; simp [go_sem]
  have fz : ∀ j, W.frozen? ⟨w.heap.size + 1, j, none⟩ = false := fun j => by rw [hW]; simp [go_sem]
  have hs : W.heap.size = w.heap.size + 2 := by rw [hW]; simp
  have HB : Below w.heap.size w W := by rw [hW]; go_grown
  replace sl := sl.keep HB (Nat.le_refl _)
  replace so := so.keep HB (Nat.le_refl _)
  clear hW
  go_loopw [8] (fun i wr => ∃ k : Nat, k ≤ 61 ∧ i = .int .i64 k ∧ Below W.heap.size W wr ∧ Hid (nextD legs off leg q = firstFrom (pNext legs off leg q) k (61 - k))) (fun i _ => 61 - (intOf i).toNat)
  case atStart => exact ⟨0, by omega, rfl, Below.refl _ _, rfl⟩
  case round =>
    obtain ⟨k, hk, rfl, hB, H⟩ := hrel
    have y0 := cell_keep hB x0
    have y1 := cell_keep hB x1
    have y2 := cell_keep hB x2
    have u0 := cell_keep hB z0
    have u1 := cell_keep hB z1
    have hsz := hB.size
    have gz : ∀ j, wr.frozen? ⟨w.heap.size + 1, j, none⟩ = false := fun j => (hB.frozen (p := ⟨w.heap.size + 1, j, none⟩) (by simp only; omega)).trans (fz j)
    have n0 : w.heap.size < wr.heap.size := by omega
    have n1 : w.heap.size + 1 < wr.heap.size := by omega
    have m0 : ¬ w.heap.size = wr.heap.size := by omega
    have m1 : ¬ w.heap.size + 1 = wr.heap.size := by omega
    have SL := sl.keep hB (Nat.le_refl _)
    have SO := so.keep hB (Nat.le_refl _)
    by_cases hlt : k < 61
    · skip
      have VB : Below wr.heap.size wr (wr.alloc (.cells #[.int .i64 leg, .int .i64 (k : Int)] 39)) := by go_grown
      have yy0 := cell_keep VB y0
      have yy1 := cell_keep VB y1
      have yy2 := cell_keep VB y2
      have hk60 : (k : Int) ≤ 60 := by omega
      have hkk : okI (k : Int) := by unfold okI; omega
      go_wp2_with fail
      obtain ⟨V, hV⟩ : ∃ V, V = wr.alloc (.cells #[.int .i64 leg, .int .i64 (k : Int)] 39) := ⟨_, rfl⟩
      rw [← hV] at VB yy0 yy1 yy2 ⊢
      have v0 : V.cell? ⟨wr.heap.size, 0, none⟩ = some (.int .i64 leg) := by rw [hV]; simp [go_sem]
      have v1 : V.cell? ⟨wr.heap.size, 1, none⟩ = some (.int .i64 (k : Int)) := by rw [hV]; simp [go_sem]
      have vv0 := cell_keep VB u0
      have vv1 := cell_keep VB u1
      have gv : ∀ j, V.frozen? ⟨w.heap.size + 1, j, none⟩ = false := fun j => (VB.frozen (p := ⟨w.heap.size + 1, j, none⟩) (by simp only; omega)).trans (gz j)
      have hsV : V.heap.size = wr.heap.size + 1 := by rw [hV]; simp
      replace SL := SL.keep VB (Nat.le_refl _)
      replace SO := SO.keep VB (Nat.le_refl _)
      clear hV
      have BV : Below W.heap.size W V := hB.trans (VB.mono hB.size)
      refine (runsI legs off ch leg k _ _ _ hnet hleg hkk SL SO).mono ?_
      rintro e q1 ⟨rfl, b1⟩
      replace yy0 := cell_keep b1 yy0
      replace yy1 := cell_keep b1 yy1
      replace yy2 := cell_keep b1 yy2
      replace v0 := cell_keep b1 v0
      replace v1 := cell_keep b1 v1
      replace vv0 := cell_keep b1 vv0
      replace vv1 := cell_keep b1 vv1
      replace gv : ∀ j, q1.frozen? ⟨w.heap.size + 1, j, none⟩ = false := fun j => (b1.frozen (p := ⟨w.heap.size + 1, j, none⟩) (by simp only; omega)).trans (gv j)
      replace SL := SL.keep b1 (Nat.le_refl _)
      replace SO := SO.keep b1 (Nat.le_refl _)
      have B1 : Below W.heap.size W q1 := BV.trans (b1.mono BV.size)
      have s1 := b1.size
      cases hr : runsB legs off leg k
      · go_wp2_with fail
        go_roundw
        case rel => exact ⟨k + 1, by omega, by go_num, B1, H.out.trans (first_no hlt (show pNext legs off leg q k = false from p_no1 hr))⟩
        case measure => first | (simp [intOf]; done) | (simp [intOf]; omega)
      · obtain ⟨n, rfl, hn, -, -⟩ := runsB_some hr
        go_wp2_with fail
        refine (startsI legs off ch k n _ _ _ hnet hn (by omega) hk60 SL SO).mono ?_
        rintro e q2 ⟨rfl, b2⟩
        replace yy0 := cell_keep b2 yy0
        replace yy1 := cell_keep b2 yy1
        replace yy2 := cell_keep b2 yy2
        replace v0 := cell_keep b2 v0
        replace v1 := cell_keep b2 v1
        replace vv0 := cell_keep b2 vv0
        replace vv1 := cell_keep b2 vv1
        replace gv : ∀ j, q2.frozen? ⟨w.heap.size + 1, j, none⟩ = false := fun j => (b2.frozen (p := ⟨w.heap.size + 1, j, none⟩) (by simp only; omega)).trans (gv j)
        have B2 : Below W.heap.size W q2 := B1.trans (b2.mono B1.size)
        have B2w := chain HB B2
        by_cases hc : q ≤ startT legs (n : Int) k
        · have hD : nextD legs off (n : Int) q = k := by rw [H.out, first_hit hlt (p_yes hr hc)]
          have HN := nextV_yes (nextF3 (ch := ch) hnet (show 0 ≤ nextD legs off (n : Int) q by omega))
          rw [hD] at HN
          have HN := Lib.hid HN
          clear hD
          go_wp2_with fail
          refine bodyPost_ret (v := .tuple #[.agg #[.int .i64 (n : Int), .int .i64 (k : Int)], .bool true]) (by simp [results, Try.results36, go_sem, vv0, vv1]) rfl ⟨by rw [HN.out], (B2w.setCell (by simp only; omega) _).setCell (by simp only; omega) _⟩
        · have HC := Lib.hid (show pNext legs off (n : Int) q k = false from p_no2 hc)
          have hc' := Int.not_le.1 hc
          go_wp2_with fail
          go_roundw
          case rel => exact ⟨k + 1, by omega, by go_num, B2, H.out.trans (first_no hlt HC.out)⟩
          case measure => first | (simp [intOf]; done) | (simp [intOf]; omega)
    · obtain rfl : k = 61 := by omega
      have HN := Lib.hid (nextV_no (nextF2 (ch := ch) (show nextD legs off leg q < 0 by rw [H.out]; simp [firstFrom])))
      have Bw := chain HB hB
      go_wp2_with fail
      refine bodyPost_ret (v := .tuple #[.agg #[.int .i64 0, .int .i64 0], .bool false]) (by simp [results, Try.results36, go_sem, u0, u1]) rfl ⟨by rw [HN.out], (Bw.setCell (by simp only; omega) _).setCell (by simp only; omega) _⟩
set_option maxHeartbeats 6400000 in
theorem lastTripI (legs : List LegD) (off : List Int) (ch leg q : Int) (l o : Value) (w : World) (hok : ∀ x ∈ legs, x.ok) (hleg : okI leg) (hq : okI q) (sl : SliceOf w 6 LegD.vals l legs) (so : SliceOf w 1 vI o off) :
    Calls Try.prog 12 #[.agg #[l, o, .int .i64 ch], .int .i64 leg, .int .i64 q] w fun e w' => e = .returned (.tuple #[.agg #[.int .i64 (lastL legs off ch leg q), .int .i64 (lastE legs off ch leg q)], .bool (lastF legs off ch leg q)]) ∧ Below w.heap.size w w' := by
  obtain ⟨A, c, rfl, -, -⟩ := sl.form
  obtain ⟨A', c', rfl, -, -⟩ := so.form
  go_enter Try.func12, Try.ntmps12
  go_wp2_with fail
  obtain ⟨W, hW⟩ : ∃ W, W = (w.alloc (.cells #[.slice A legs.length c, .slice A' off.length c', .int .i64 ch] 35)).alloc (.cells #[.int .i64 0, .int .i64 0] 39) := ⟨_, rfl⟩
  try rw [← hW]
  have x0 : W.cell? ⟨w.heap.size, 0, none⟩ = some (.slice A legs.length c) := by rw [hW]; simp [go_sem]
  have x1 : W.cell? ⟨w.heap.size, 1, none⟩ = some (.slice A' off.length c') := by rw [hW]; simp [go_sem]
  have x2 : W.cell? ⟨w.heap.size, 2, none⟩ = some (.int .i64 ch) := by rw [hW]; simp [go_sem]
  have z0 : W.cell? ⟨w.heap.size + 1, 0, none⟩ = some (.int .i64 0) := by rw [hW]; simp [go_sem]
  have z1 : W.cell? ⟨w.heap.size + 1, 1, none⟩ = some (.int .i64 0) := by rw [hW]; simp [go_sem]
  have fz : ∀ j, W.frozen? ⟨w.heap.size + 1, j, none⟩ = false := fun j => by rw [hW]; simp [go_sem]
  have hs : W.heap.size = w.heap.size + 2 := by rw [hW]; simp
  have HW : Below w.heap.size w W := by rw [hW]; go_grown
  replace sl := sl.keep HW (Nat.le_refl _)
  replace so := so.keep HW (Nat.le_refl _)
  clear hW
  go_wp2_with fail
  refine (isNetI legs off ch _ _ _ hok sl so).mono ?_
  rintro e w1 ⟨rfl, b1⟩
  have B1 := chain HW b1
  replace x0 := cell_keep b1 x0
  replace x1 := cell_keep b1 x1
  replace x2 := cell_keep b1 x2
  replace z0 := cell_keep b1 z0
  replace z1 := cell_keep b1 z1
  replace fz : ∀ j, w1.frozen? ⟨w.heap.size + 1, j, none⟩ = false := fun j => (b1.frozen (p := ⟨w.heap.size + 1, j, none⟩) (by simp only; omega)).trans (fz j)
  replace sl := sl.keep b1 (Nat.le_refl _)
  replace so := so.keep b1 (Nat.le_refl _)
  cases hnet : netB legs off ch
  · have HN := Lib.hid (lastV_no (lastF1 (leg := leg) (q := q) hnet))
    go_wp2_with fail
    refine bodyPost_ret (v := .tuple #[.agg #[.int .i64 0, .int .i64 0], .bool false]) (by simp [results, Try.results12, go_sem, z0, z1]) rfl ⟨by rw [HN.out], (B1.setCell (by simp only; omega) _).setCell (by simp only; omega) _⟩
  have HB := B1
  have lt1 : w.heap.size + 1 < w1.heap.size := cell_lt z0
  go_wp2_with fail
  go_loopw [8] (fun i wr => ∃ d : Int, -1 ≤ d ∧ d ≤ 60 ∧ i = .int .i64 d ∧ Below w1.heap.size w1 wr ∧ Hid (lastD legs off leg q = lastBelow (pLast legs off leg q) (d + 1).toNat)) (fun i _ => (intOf i + 1).toNat)
  case atStart => exact ⟨60, by omega, by omega, rfl, Below.refl _ _, rfl⟩
  case round =>
    obtain ⟨d, hd1, hd2, rfl, hB, H⟩ := hrel
    clear B1 b1 HW
    have y0 := cell_keep hB x0
    have y1 := cell_keep hB x1
    have y2 := cell_keep hB x2
    have u0 := cell_keep hB z0
    have u1 := cell_keep hB z1
    have hsz := hB.size
    have gz : ∀ j, wr.frozen? ⟨w.heap.size + 1, j, none⟩ = false := fun j => (hB.frozen (p := ⟨w.heap.size + 1, j, none⟩) (by simp only; omega)).trans (fz j)
    have n0 : w.heap.size < wr.heap.size := by omega
    have n1 : w.heap.size + 1 < wr.heap.size := by omega
    have m0 : ¬ w.heap.size = wr.heap.size := by omega
    have m1 : ¬ w.heap.size + 1 = wr.heap.size := by omega
    have SL := sl.keep hB (Nat.le_refl _)
    have SO := so.keep hB (Nat.le_refl _)
    by_cases hlt : 0 ≤ d
    · obtain ⟨k, rfl⟩ := Int.eq_ofNat_of_zero_le hlt
      have H' := Lib.hid (show lastD legs off leg q = lastBelow (pLast legs off leg q) (k + 1) from by rw [H.out]; try congr 1)
      clear H hlt
      have hlt : (0 : Int) ≤ (k : Int) := by omega
      have VB : Below wr.heap.size wr (wr.alloc (.cells #[.int .i64 leg, .int .i64 (k : Int)] 39)) := by go_grown
      have yy0 := cell_keep VB y0
      have yy1 := cell_keep VB y1
      have yy2 := cell_keep VB y2
      have hk60 : (k : Int) ≤ 60 := by omega
      have hkk : okI (k : Int) := by unfold okI; omega
      go_wp2_with fail
      obtain ⟨V, hV⟩ : ∃ V, V = wr.alloc (.cells #[.int .i64 leg, .int .i64 (k : Int)] 39) := ⟨_, rfl⟩
      rw [← hV] at VB yy0 yy1 yy2 ⊢
      have v0 : V.cell? ⟨wr.heap.size, 0, none⟩ = some (.int .i64 leg) := by rw [hV]; simp [go_sem]
      have v1 : V.cell? ⟨wr.heap.size, 1, none⟩ = some (.int .i64 (k : Int)) := by rw [hV]; simp [go_sem]
      have vv0 := cell_keep VB u0
      have vv1 := cell_keep VB u1
      have gv : ∀ j, V.frozen? ⟨w.heap.size + 1, j, none⟩ = false := fun j => (VB.frozen (p := ⟨w.heap.size + 1, j, none⟩) (by simp only; omega)).trans (gz j)
      have hsV : V.heap.size = wr.heap.size + 1 := by rw [hV]; simp
      replace SL := SL.keep VB (Nat.le_refl _)
      replace SO := SO.keep VB (Nat.le_refl _)
      clear hV
      have BV : Below w1.heap.size w1 V := hB.trans (VB.mono hB.size)
      refine (runsI legs off ch leg k _ _ _ hnet hleg hkk SL SO).mono ?_
      rintro e q1 ⟨rfl, b1⟩
      replace yy0 := cell_keep b1 yy0
      replace yy1 := cell_keep b1 yy1
      replace yy2 := cell_keep b1 yy2
      replace v0 := cell_keep b1 v0
      replace v1 := cell_keep b1 v1
      replace vv0 := cell_keep b1 vv0
      replace vv1 := cell_keep b1 vv1
      replace gv : ∀ j, q1.frozen? ⟨w.heap.size + 1, j, none⟩ = false := fun j => (b1.frozen (p := ⟨w.heap.size + 1, j, none⟩) (by simp only; omega)).trans (gv j)
      replace SL := SL.keep b1 (Nat.le_refl _)
      replace SO := SO.keep b1 (Nat.le_refl _)
      have B1 : Below w1.heap.size w1 q1 := BV.trans (b1.mono BV.size)
      have s1 := b1.size
      cases hr : runsB legs off leg k
      · go_wp2_with fail
        go_roundw
        case rel => exact ⟨(k : Int) - 1, by omega, by omega, by go_num, B1, by rw [H'.out, last_no (show pLast legs off leg q k = false from p_no1 hr)]; first | done | rfl | (congr 1; omega)⟩
        case measure => first | (simp [intOf]; done) | (simp [intOf]; omega)
      · obtain ⟨n, rfl, hn, -, -⟩ := runsB_some hr
        go_wp2_with fail
        refine (endsI legs off ch k n _ _ _ hnet hn (by omega) hk60 SL SO).mono ?_
        rintro e q2 ⟨rfl, b2⟩
        replace yy0 := cell_keep b2 yy0
        replace yy1 := cell_keep b2 yy1
        replace yy2 := cell_keep b2 yy2
        replace v0 := cell_keep b2 v0
        replace v1 := cell_keep b2 v1
        replace vv0 := cell_keep b2 vv0
        replace vv1 := cell_keep b2 vv1
        replace gv : ∀ j, q2.frozen? ⟨w.heap.size + 1, j, none⟩ = false := fun j => (b2.frozen (p := ⟨w.heap.size + 1, j, none⟩) (by simp only; omega)).trans (gv j)
        have B2 : Below w1.heap.size w1 q2 := B1.trans (b2.mono B1.size)
        have B2w := chain HB B2
        by_cases hc : endT legs (n : Int) k ≤ q
        · have hD : lastD legs off (n : Int) q = k := by rw [H'.out, last_hit (p_yes hr hc)]
          have HN := lastV_yes (lastF3 (ch := ch) hnet (show 0 ≤ lastD legs off (n : Int) q by omega))
          rw [hD] at HN
          have HN := Lib.hid HN
          clear hD
          go_wp2_with fail
          refine bodyPost_ret (v := .tuple #[.agg #[.int .i64 (n : Int), .int .i64 (k : Int)], .bool true]) (by simp [results, Try.results12, go_sem, vv0, vv1]) rfl ⟨by rw [HN.out], (B2w.setCell (by simp only; omega) _).setCell (by simp only; omega) _⟩
        · have HC := Lib.hid (show pLast legs off (n : Int) q k = false from p_no2 hc)
          have hc' := Int.not_le.1 hc
          go_wp2_with fail
          go_roundw
          case rel => exact ⟨(k : Int) - 1, by omega, by omega, by go_num, B2, by rw [H'.out, last_no HC.out]; first | done | rfl | (congr 1; omega)⟩
          case measure => first | (simp [intOf]; done) | (simp [intOf]; omega)
    · obtain rfl : d = -1 := by omega
      have HN := Lib.hid (lastV_no (lastF2 (ch := ch) (show lastD legs off leg q < 0 by rw [H.out]; simp [lastBelow])))
      have Bw := chain HB hB
      go_wp2_with fail
      refine bodyPost_ret (v := .tuple #[.agg #[.int .i64 0, .int .i64 0], .bool false]) (by simp [results, Try.results12, go_sem, u0, u1]) rfl ⟨by rw [HN.out], (Bw.setCell (by simp only; omega) _).setCell (by simp only; omega) _⟩
set_option maxHeartbeats 6400000 in
theorem nextTripI (legs : List LegD) (off : List Int) (ch leg q : Int) (l o : Value) (w : World) (hok : ∀ x ∈ legs, x.ok) (hleg : okI leg) (hq : okI q) (sl : SliceOf w 6 LegD.vals l legs) (so : SliceOf w 1 vI o off) :
    Calls Try.prog 18 #[.agg #[l, o, .int .i64 ch], .int .i64 leg, .int .i64 q] w fun e w' => e = .returned (.tuple #[.agg #[.int .i64 (nextL legs off ch leg q), .int .i64 (nextE legs off ch leg q)], .bool (nextF legs off ch leg q)]) ∧ Below w.heap.size w w' := by
  obtain ⟨A, c, rfl, -, -⟩ := sl.form
  obtain ⟨A', c', rfl, -, -⟩ := so.form
  go_enter Try.func18, Try.ntmps18
  go_wp2_with fail
  obtain ⟨W, hW⟩ : ∃ W, W = (w.alloc (.cells #[.slice A legs.length c, .slice A' off.length c', .int .i64 ch] 35)).alloc (.cells #[.int .i64 0, .int .i64 0] 39) := ⟨_, rfl⟩
  try rw [← hW]
  have x0 : W.cell? ⟨w.heap.size, 0, none⟩ = some (.slice A legs.length c) := by rw [hW]; simp [go_sem]
  have x1 : W.cell? ⟨w.heap.size, 1, none⟩ = some (.slice A' off.length c') := by rw [hW]; simp [go_sem]
  have x2 : W.cell? ⟨w.heap.size, 2, none⟩ = some (.int .i64 ch) := by rw [hW]; simp [go_sem]
  have z0 : W.cell? ⟨w.heap.size + 1, 0, none⟩ = some (.int .i64 0) := by rw [hW]; simp [go_sem]
  have z1 : W.cell? ⟨w.heap.size + 1, 1, none⟩ = some (.int .i64 0) := by rw [hW]; simp [go_sem]
  have fz : ∀ j, W.frozen? ⟨w.heap.size + 1, j, none⟩ = false := fun j => by rw [hW]; simp [go_sem]
  have hs : W.heap.size = w.heap.size + 2 := by rw [hW]; simp
  have HW : Below w.heap.size w W := by rw [hW]; go_grown
  replace sl := sl.keep HW (Nat.le_refl _)
  replace so := so.keep HW (Nat.le_refl _)
  clear hW
  go_wp2_with fail
  refine (isNetI legs off ch _ _ _ hok sl so).mono ?_
  rintro e w1 ⟨rfl, b1⟩
  have B1 := chain HW b1
  replace x0 := cell_keep b1 x0
  replace x1 := cell_keep b1 x1
  replace x2 := cell_keep b1 x2
  replace z0 := cell_keep b1 z0
  replace z1 := cell_keep b1 z1
  replace fz : ∀ j, w1.frozen? ⟨w.heap.size + 1, j, none⟩ = false := fun j => (b1.frozen (p := ⟨w.heap.size + 1, j, none⟩) (by simp only; omega)).trans (fz j)
  replace sl := sl.keep b1 (Nat.le_refl _)
  replace so := so.keep b1 (Nat.le_refl _)
  cases hnet : netB legs off ch
  · have HN := Lib.hid (nextV_no (nextF1 (leg := leg) (q := q) hnet))
    go_wp2_with fail
    refine bodyPost_ret (v := .tuple #[.agg #[.int .i64 0, .int .i64 0], .bool false]) (by simp [results, Try.results18, go_sem, z0, z1]) rfl ⟨by rw [HN.out], (B1.setCell (by simp only; omega) _).setCell (by simp only; omega) _⟩
  have lt1 : w.heap.size + 1 < w1.heap.size := cell_lt z0
  go_wp2_with fail
  refine (nextI legs off ch leg q _ _ _ hnet hleg hq sl so).mono ?_
  rintro e w2 ⟨rfl, b2⟩
  have B2 := chain B1 b2
  replace z0 := cell_keep b2 z0
  replace z1 := cell_keep b2 z1
  replace fz : ∀ j, w2.frozen? ⟨w.heap.size + 1, j, none⟩ = false := fun j => (b2.frozen (p := ⟨w.heap.size + 1, j, none⟩) (by simp only; omega)).trans (fz j)
  have s2 := b2.size
  have n0 : w.heap.size < w2.heap.size := by omega
  have n1 : w.heap.size + 1 < w2.heap.size := by omega
  have m0 : ¬ w.heap.size = w2.heap.size := by omega
  have m1 : ¬ w.heap.size + 1 = w2.heap.size := by omega
  have VB : Below w2.heap.size w2 (w2.alloc (.cells #[.int .i64 (nextL legs off ch leg q), .int .i64 (nextE legs off ch leg q)] 39)) := by go_grown
  have zz0 := cell_keep VB z0
  have zz1 := cell_keep VB z1
  have gz : ∀ j, (w2.alloc (.cells #[.int .i64 (nextL legs off ch leg q), .int .i64 (nextE legs off ch leg q)] 39)).frozen? ⟨w.heap.size + 1, j, none⟩ = false := fun j => (VB.frozen (p := ⟨w.heap.size + 1, j, none⟩) (by simp only; omega)).trans (fz j)
  have BV := chain B2 VB
  go_wp2_with fail
  have t0 : ((w2.setCell ⟨w.heap.size + 1, 0, none⟩ (.int .i64 (nextL legs off ch leg q))).setCell ⟨w.heap.size + 1, 1, none⟩ (.int .i64 (nextE legs off ch leg q))).cell? ⟨w.heap.size + 1, 0, none⟩ = some (.int .i64 (nextL legs off ch leg q)) := by simp [go_sem, z0]
  have t1 : ((w2.setCell ⟨w.heap.size + 1, 0, none⟩ (.int .i64 (nextL legs off ch leg q))).setCell ⟨w.heap.size + 1, 1, none⟩ (.int .i64 (nextE legs off ch leg q))).cell? ⟨w.heap.size + 1, 1, none⟩ = some (.int .i64 (nextE legs off ch leg q)) := by simp [go_sem, z1]
  have VS : Below ((w2.setCell ⟨w.heap.size + 1, 0, none⟩ (.int .i64 (nextL legs off ch leg q))).setCell ⟨w.heap.size + 1, 1, none⟩ (.int .i64 (nextE legs off ch leg q))).heap.size ((w2.setCell ⟨w.heap.size + 1, 0, none⟩ (.int .i64 (nextL legs off ch leg q))).setCell ⟨w.heap.size + 1, 1, none⟩ (.int .i64 (nextE legs off ch leg q))) (((w2.setCell ⟨w.heap.size + 1, 0, none⟩ (.int .i64 (nextL legs off ch leg q))).setCell ⟨w.heap.size + 1, 1, none⟩ (.int .i64 (nextE legs off ch leg q))).alloc (.cells #[.int .i64 (nextL legs off ch leg q), .int .i64 (nextE legs off ch leg q)] 39)) := by go_grown
  have T0 := cell_keep VS t0
  have T1 := cell_keep VS t1
  refine bodyPost_ret (v := .tuple #[.agg #[.int .i64 (nextL legs off ch leg q), .int .i64 (nextE legs off ch leg q)], .bool (nextF legs off ch leg q)]) (by simp [results, Try.results18, go_sem, T0, T1]) rfl ⟨rfl, chain ((B2.setCell (by simp only; omega) _).setCell (by simp only; omega) _) VS⟩
end Go.Proofs.Ytdnakeogofgpaaa
