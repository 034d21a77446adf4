/- The next and the last trip of a leg: the program's and the reference's alike. No condition. -/
import Derived.Test.YtdnakeogofgpaaaTrips
namespace Go.Proofs.Ytdnakeogofgpaaa
open Go.RowKit Go.PlainAid
set_option maxRecDepth 100000
set_option linter.unusedVariables false
/-- The first of m numbers from d on with p; the last number below n with p; -1 if there is none. -/
def firstFrom (p : Int → Bool) (d : Nat) : Nat → Int
  | 0 => -1
  | m + 1 => bif p d then d else firstFrom p (d + 1) m
def lastBelow (p : Int → Bool) : Nat → Int
  | 0 => -1
  | n + 1 => bif p n then n else lastBelow p n
theorem first_hit {p : Int → Bool} {k : Nat} (hk : k < 61) (h : p k = true) : firstFrom p k (61 - k) = k := by
  obtain ⟨m, hm⟩ : ∃ m, 61 - k = m + 1 := ⟨60 - k, by omega⟩
  rw [hm, firstFrom, h]; rfl
theorem first_no {p : Int → Bool} {k : Nat} (hk : k < 61) (h : p k = false) : firstFrom p k (61 - k) = firstFrom p (k + 1) (61 - (k + 1)) := by
  obtain ⟨m, hm⟩ : ∃ m, 61 - k = m + 1 := ⟨60 - k, by omega⟩
  rw [hm, firstFrom, h, show 61 - (k + 1) = m by omega]; rfl
theorem first_from_ge (p : Int → Bool) (m d : Nat) : firstFrom p d m = -1 ∨ (d : Int) ≤ firstFrom p d m ∧ firstFrom p d m < d + m := by
  induction m generalizing d with
  | zero => exact .inl rfl
  | succ m ih =>
    rw [firstFrom]
    cases p d
    · rcases ih (d + 1) with h | h
      · exact .inl h
      · refine .inr ?_; simp only [cond_false]; omega
    · refine .inr ?_; simp only [cond_true]; omega
theorem last_lt (p : Int → Bool) (n : Nat) : -1 ≤ lastBelow p n ∧ lastBelow p n < n := by
  induction n with
  | zero => exact ⟨by simp [lastBelow], by simp [lastBelow]⟩
  | succ n ih => rw [lastBelow]; cases p n <;> simp <;> omega
theorem last_hit {p : Int → Bool} {k : Nat} (h : p k = true) : lastBelow p (k + 1) = k := by rw [lastBelow, h]; rfl
theorem last_no {p : Int → Bool} {k : Nat} (h : p k = false) : lastBelow p (k + 1) = lastBelow p k := by rw [lastBelow, h]; rfl
/-- A leg starts at a time or later on the day; ends at a time or earlier. -/
def pNext (legs : List LegD) (off : List Int) (leg q day : Int) : Bool := runsB legs off leg day && decide (q ≤ startT legs leg day)
def pLast (legs : List LegD) (off : List Int) (leg q day : Int) : Bool := runsB legs off leg day && decide (endT legs leg day ≤ q)
def nextD (legs : List LegD) (off : List Int) (leg q : Int) : Int := firstFrom (pNext legs off leg q) 0 61
def lastD (legs : List LegD) (off : List Int) (leg q : Int) : Int := lastBelow (pLast legs off leg q) 61
theorem p_no1 {r : Bool} {c : Bool} (h : r = false) : (r && c) = false := by rw [h]; rfl
theorem p_no2 {r : Bool} {c : Prop} [Decidable c] (h : ¬ c) : (r && decide c) = false := by rw [decide_eq_false h]; simp
theorem p_yes {r : Bool} {c : Prop} [Decidable c] (h1 : r = true) (h2 : c) : (r && decide c) = true := by rw [h1, decide_eq_true h2]; rfl

set_option maxHeartbeats 6400000 in
theorem nextDS (legs : List LegD) (off : List Int) (ch leg q : Int) (l o : Value) (w : World) (hnet : netB legs off ch = true) (hleg : okI leg) (hq : okI q) (sl : SliceOf w 6 LegD.vals l legs) (so : SliceOf w 1 vI o off) :
    Calls Try.prog 37 #[.agg #[l, o, .int .i64 ch], .int .i64 leg, .int .i64 q] w fun e w' => e = .returned (.int .i64 (nextD legs off leg q)) ∧ Below w.heap.size w w' := by
  obtain ⟨A, c, rfl, -, -⟩ := sl.form
  obtain ⟨A', c', rfl, -, -⟩ := so.form
  go_enter Try.func37, Try.ntmps37
  go_wp2_with fail
  obtain ⟨W, hW⟩ : ∃ W, W = w.alloc (.cells #[.slice A legs.length c, .slice A' off.length c', .int .i64 ch] 35) := ⟨_, rfl⟩
  try rw [← hW]
  have x0 : W.cell? ⟨w.heap.size, 0, none⟩ = some (.slice A legs.length c) := by rw [hW]; simp [go_sem]
  have x1 : W.cell? ⟨w.heap.size, 1, none⟩ = some (.slice A' off.length c') := by rw [hW]; simp [go_sem]
  have x2 : W.cell? ⟨w.heap.size, 2, none⟩ = some (.int .i64 ch) := by rw [hW]; simp [go_sem]
  have HW : Below w.heap.size w W := by rw [hW]; go_grown
  replace sl := sl.keep HW (Nat.le_refl _)
  replace so := so.keep HW (Nat.le_refl _)
  clear hW
  go_loopw [7] (fun i wr => ∃ k : Nat, k ≤ 61 ∧ i = .int .i64 k ∧ Below W.heap.size W wr ∧ Hid (nextD legs off leg q = firstFrom (pNext legs off leg q) k (61 - k))) (fun i _ => 61 - (intOf i).toNat)
  case atStart => exact ⟨0, by omega, rfl, Below.refl _ _, rfl⟩
  case round =>
    obtain ⟨k, hk, rfl, hB, H⟩ := hrel
    have y0 := cell_keep hB x0
    have y1 := cell_keep hB x1
    have y2 := cell_keep hB x2
    have SL := sl.keep hB (Nat.le_refl _)
    have SO := so.keep hB (Nat.le_refl _)
    by_cases hlt : k < 61
    · have hk60 : (k : Int) ≤ 60 := by omega
      have hkk : okI (k : Int) := by unfold okI; omega
      go_wp2_with fail
      refine (runsS legs off ch leg k _ _ _ hnet hleg hkk SL SO).mono ?_
      rintro e w1 ⟨rfl, b1⟩
      replace y0 := cell_keep b1 y0
      replace y1 := cell_keep b1 y1
      replace y2 := cell_keep b1 y2
      replace SL := SL.keep b1 (Nat.le_refl _)
      replace SO := SO.keep b1 (Nat.le_refl _)
      have B1 := hB.trans (b1.mono hB.size)
      cases hr : runsB legs off leg k
      · go_wp2_with fail
        go_roundw
        case rel => exact ⟨k + 1, by omega, by go_num, B1, H.out.trans (first_no hlt (show pNext legs off leg q k = false from p_no1 hr))⟩
        case measure => simp [intOf]; omega
      · obtain ⟨n, rfl, hn, -, -⟩ := runsB_some hr
        go_wp2_with fail
        refine (startsS legs off ch k n _ _ _ hnet hn (by omega) hk60 SL SO).mono ?_
        rintro e w2 ⟨rfl, b2⟩
        have B2 := B1.trans (b2.mono B1.size)
        by_cases hc : q ≤ startT legs (n : Int) k
        · have HC := Lib.hid (show pNext legs off (n : Int) q k = true from p_yes hr hc)
          go_wp2_with fail
          go_ret
          exact ⟨by rw [H.out, first_hit hlt HC.out]; rfl, chain HW B2⟩
        · have HC := Lib.hid (show pNext legs off (n : Int) q k = false from p_no2 hc)
          have hc' := Int.not_le.1 hc
          go_wp2_with fail
          go_roundw
          case rel => exact ⟨k + 1, by omega, by go_num, B2, H.out.trans (first_no hlt HC.out)⟩
          case measure => simp [intOf]; omega
    · obtain rfl : k = 61 := by omega
      go_wp2_with fail
      go_ret
      exact ⟨by rw [H.out]; rfl, chain HW hB⟩
set_option maxHeartbeats 6400000 in
theorem lastDS (legs : List LegD) (off : List Int) (ch leg q : Int) (l o : Value) (w : World) (hnet : netB legs off ch = true) (hleg : okI leg) (hq : okI q) (sl : SliceOf w 6 LegD.vals l legs) (so : SliceOf w 1 vI o off) :
    Calls Try.prog 30 #[.agg #[l, o, .int .i64 ch], .int .i64 leg, .int .i64 q] w fun e w' => e = .returned (.int .i64 (lastD legs off leg q)) ∧ Below w.heap.size w w' := by
  obtain ⟨A, c, rfl, -, -⟩ := sl.form
  obtain ⟨A', c', rfl, -, -⟩ := so.form
  go_enter Try.func30, Try.ntmps30
  go_wp2_with fail
  obtain ⟨W, hW⟩ : ∃ W, W = w.alloc (.cells #[.slice A legs.length c, .slice A' off.length c', .int .i64 ch] 35) := ⟨_, rfl⟩
  try rw [← hW]
  have x0 : W.cell? ⟨w.heap.size, 0, none⟩ = some (.slice A legs.length c) := by rw [hW]; simp [go_sem]
  have x1 : W.cell? ⟨w.heap.size, 1, none⟩ = some (.slice A' off.length c') := by rw [hW]; simp [go_sem]
  have x2 : W.cell? ⟨w.heap.size, 2, none⟩ = some (.int .i64 ch) := by rw [hW]; simp [go_sem]
  have HW : Below w.heap.size w W := by rw [hW]; go_grown
  replace sl := sl.keep HW (Nat.le_refl _)
  replace so := so.keep HW (Nat.le_refl _)
  clear hW
  go_loopw [7, 8] (fun b i wr => ∃ k : Nat, k ≤ 61 ∧ b = .int .i64 (lastBelow (pLast legs off leg q) k) ∧ i = .int .i64 k ∧ Below W.heap.size W wr) (fun _ i _ => 61 - (intOf i).toNat)
  case atStart => exact ⟨0, by omega, rfl, rfl, Below.refl _ _⟩
  case round =>
    obtain ⟨k, hk, rfl, rfl, hB⟩ := hrel
    have y0 := cell_keep hB x0
    have y1 := cell_keep hB x1
    have y2 := cell_keep hB x2
    have SL := sl.keep hB (Nat.le_refl _)
    have SO := so.keep hB (Nat.le_refl _)
    by_cases hlt : k < 61
    · have hk60 : (k : Int) ≤ 60 := by omega
      have hkk : okI (k : Int) := by unfold okI; omega
      go_wp2_with fail
      refine (runsS legs off ch leg k _ _ _ hnet hleg hkk SL SO).mono ?_
      rintro e w1 ⟨rfl, b1⟩
      replace y0 := cell_keep b1 y0
      replace y1 := cell_keep b1 y1
      replace y2 := cell_keep b1 y2
      replace SL := SL.keep b1 (Nat.le_refl _)
      replace SO := SO.keep b1 (Nat.le_refl _)
      have B1 := hB.trans (b1.mono hB.size)
      cases hr : runsB legs off leg k
      · go_wp2_with fail
        go_roundw
        case rel => exact ⟨k + 1, by omega, by rw [last_no (show pLast legs off leg q k = false from p_no1 hr)], by go_num, B1⟩
        case measure => simp [intOf]; omega
      · obtain ⟨n, rfl, hn, -, -⟩ := runsB_some hr
        go_wp2_with fail
        refine (endsS legs off ch k n _ _ _ hnet hn (by omega) hk60 SL SO).mono ?_
        rintro e w2 ⟨rfl, b2⟩
        have B2 := B1.trans (b2.mono B1.size)
        by_cases hc : endT legs (n : Int) k ≤ q
        · have HC := Lib.hid (show pLast legs off (n : Int) q k = true from p_yes hr hc)
          go_wp2_with fail
          go_roundw
          case rel => exact ⟨k + 1, by omega, by rw [last_hit HC.out], by go_num, B2⟩
          case measure => simp [intOf]; omega
        · have HC := Lib.hid (show pLast legs off (n : Int) q k = false from p_no2 hc)
          have hc' := Int.not_le.1 hc
          go_wp2_with fail
          go_roundw
          case rel => exact ⟨k + 1, by omega, by rw [last_no HC.out], by go_num, B2⟩
          case measure => simp [intOf]; omega
    · obtain rfl : k = 61 := by omega
      go_wp2_with fail
      go_ret
      exact ⟨rfl, chain HW hB⟩
def nextF (legs : List LegD) (off : List Int) (ch leg q : Int) : Bool := netB legs off ch && decide (0 ≤ nextD legs off leg q)
def nextL (legs : List LegD) (off : List Int) (ch leg q : Int) : Int := bif nextF legs off ch leg q then leg else 0
def nextE (legs : List LegD) (off : List Int) (ch leg q : Int) : Int := bif nextF legs off ch leg q then nextD legs off leg q else 0
theorem nextV_no {legs : List LegD} {off : List Int} {ch leg q : Int} (h : nextF legs off ch leg q = false) : (.tuple #[.agg #[.int .i64 0, .int .i64 0], .bool false] : Value) = .tuple #[.agg #[.int .i64 (nextL legs off ch leg q), .int .i64 (nextE legs off ch leg q)], .bool (nextF legs off ch leg q)] := by
  unfold nextL nextE; rw [h]; rfl
theorem nextV_yes {legs : List LegD} {off : List Int} {ch leg q : Int} (h : nextF legs off ch leg q = true) : (.tuple #[.agg #[.int .i64 leg, .int .i64 (nextD legs off leg q)], .bool true] : Value) = .tuple #[.agg #[.int .i64 (nextL legs off ch leg q), .int .i64 (nextE legs off ch leg q)], .bool (nextF legs off ch leg q)] := by
  unfold nextL nextE; rw [h]; rfl
theorem nextF1 {legs : List LegD} {off : List Int} {ch leg q : Int} (h : netB legs off ch = false) : nextF legs off ch leg q = false := by unfold nextF; rw [h]; rfl
theorem nextF2 {legs : List LegD} {off : List Int} {ch leg q : Int} (h : nextD legs off leg q < 0) : nextF legs off ch leg q = false := by unfold nextF; rw [decide_eq_false (by omega)]; simp
theorem nextF3 {legs : List LegD} {off : List Int} {ch leg q : Int} (hn : netB legs off ch = true) (h : 0 ≤ nextD legs off leg q) : nextF legs off ch leg q = true := by unfold nextF; rw [hn, decide_eq_true h]; rfl
def lastF (legs : List LegD) (off : List Int) (ch leg q : Int) : Bool := netB legs off ch && decide (0 ≤ lastD legs off leg q)
def lastL (legs : List LegD) (off : List Int) (ch leg q : Int) : Int := bif lastF legs off ch leg q then leg else 0
def lastE (legs : List LegD) (off : List Int) (ch leg q : Int) : Int := bif lastF legs off ch leg q then lastD legs off leg q else 0
theorem lastV_no {legs : List LegD} {off : List Int} {ch leg q : Int} (h : lastF legs off ch leg q = false) : (.tuple #[.agg #[.int .i64 0, .int .i64 0], .bool false] : Value) = .tuple #[.agg #[.int .i64 (lastL legs off ch leg q), .int .i64 (lastE legs off ch leg q)], .bool (lastF legs off ch leg q)] := by
  unfold lastL lastE; rw [h]; rfl
theorem lastV_yes {legs : List LegD} {off : List Int} {ch leg q : Int} (h : lastF legs off ch leg q = true) : (.tuple #[.agg #[.int .i64 leg, .int .i64 (lastD legs off leg q)], .bool true] : Value) = .tuple #[.agg #[.int .i64 (lastL legs off ch leg q), .int .i64 (lastE legs off ch leg q)], .bool (lastF legs off ch leg q)] := by
  unfold lastL lastE; rw [h]; rfl
theorem lastF1 {legs : List LegD} {off : List Int} {ch leg q : Int} (h : netB legs off ch = false) : lastF legs off ch leg q = false := by unfold lastF; rw [h]; rfl
theorem lastF2 {legs : List LegD} {off : List Int} {ch leg q : Int} (h : lastD legs off leg q < 0) : lastF legs off ch leg q = false := by unfold lastF; rw [decide_eq_false (by omega)]; simp
theorem lastF3 {legs : List LegD} {off : List Int} {ch leg q : Int} (hn : netB legs off ch = true) (h : 0 ≤ lastD legs off leg q) : lastF legs off ch leg q = true := by unfold lastF; rw [hn, decide_eq_true h]; rfl
theorem nextD_range (legs : List LegD) (off : List Int) (leg q : Int) : nextD legs off leg q = -1 ∨ 0 ≤ nextD legs off leg q ∧ nextD legs off leg q ≤ 60 := by
  rcases first_from_ge (pNext legs off leg q) 61 0 with h | h
  · exact .inl h
  · refine .inr ?_; unfold nextD; omega
theorem lastD_range (legs : List LegD) (off : List Int) (leg q : Int) : -1 ≤ lastD legs off leg q ∧ lastD legs off leg q ≤ 60 := by
  have := last_lt (pLast legs off leg q) 61
  unfold lastD; omega
set_option maxHeartbeats 6400000 in
theorem nextTripS (legs : List LegD) (off : List Int) (ch leg q : Int) (l o : Value) (w : World) (hok : ∀ x ∈ legs, x.ok) (hleg : okI leg) (hq : okI q) (sl : SliceOf w 6 LegD.vals l legs) (so : SliceOf w 1 vI o off) :
    Calls Try.prog 19 #[.agg #[l, o, .int .i64 ch], .int .i64 leg, .int .i64 q] w fun e w' => e = .returned (.tuple #[.agg #[.int .i64 (nextL legs off ch leg q), .int .i64 (nextE legs off ch leg q)], .bool (nextF legs off ch leg q)]) ∧ Below w.heap.size w w' := by
  obtain ⟨A, c, rfl, -, -⟩ := sl.form
  obtain ⟨A', c', rfl, -, -⟩ := so.form
  go_enter Try.func19, Try.ntmps19
  go_wp2_with fail
  obtain ⟨W, hW⟩ : ∃ W, W = (w.alloc (.cells #[.slice A legs.length c, .slice A' off.length c', .int .i64 ch] 35)).alloc (.cells #[.int .i64 0, .int .i64 0] 39) := ⟨_, rfl⟩
  try rw [← hW]
  have x0 : W.cell? ⟨w.heap.size, 0, none⟩ = some (.slice A legs.length c) := by rw [hW]; simp [go_sem]
  have x1 : W.cell? ⟨w.heap.size, 1, none⟩ = some (.slice A' off.length c') := by rw [hW]; simp [go_sem]
  have x2 : W.cell? ⟨w.heap.size, 2, none⟩ = some (.int .i64 ch) := by rw [hW]; simp [go_sem]
  have z0 : W.cell? ⟨w.heap.size + 1, 0, none⟩ = some (.int .i64 0) := by rw [hW]; simp [go_sem]
  have z1 : W.cell? ⟨w.heap.size + 1, 1, none⟩ = some (.int .i64 0) := by rw [hW]; simp [go_sem]
  have fz : ∀ j, W.frozen? ⟨w.heap.size + 1, j, none⟩ = false := fun j => by rw [hW]; simp [go_sem]
  have hs : W.heap.size = w.heap.size + 2 := by rw [hW]; simp
  have HW : Below w.heap.size w W := by rw [hW]; go_grown
  replace sl := sl.keep HW (Nat.le_refl _)
  replace so := so.keep HW (Nat.le_refl _)
  clear hW
  go_wp2_with fail
  refine (isNetS legs off ch _ _ _ hok sl so).mono ?_
  rintro e w1 ⟨rfl, b1⟩
  have B1 := chain HW b1
  replace x0 := cell_keep b1 x0
  replace x1 := cell_keep b1 x1
  replace x2 := cell_keep b1 x2
  replace z0 := cell_keep b1 z0
  replace z1 := cell_keep b1 z1
  replace fz : ∀ j, w1.frozen? ⟨w.heap.size + 1, j, none⟩ = false := fun j => (b1.frozen (p := ⟨w.heap.size + 1, j, none⟩) (by simp only; omega)).trans (fz j)
  replace sl := sl.keep b1 (Nat.le_refl _)
  replace so := so.keep b1 (Nat.le_refl _)
  cases hn : netB legs off ch
  · have HN := Lib.hid (nextV_no (nextF1 (leg := leg) (q := q) hn))
    go_wp2_with fail
    refine bodyPost_ret (v := .tuple #[.agg #[.int .i64 0, .int .i64 0], .bool false]) (by simp [results, Try.results19, go_sem, z0, z1]) rfl ⟨by rw [HN.out], (B1.setCell (by simp only; omega) _).setCell (by simp only; omega) _⟩
  · go_wp2_with fail
    refine (nextDS legs off ch leg q _ _ _ hn hleg hq sl so).mono ?_
    rintro e w2 ⟨rfl, b2⟩
    have B2 := chain B1 b2
    have lt1 : w.heap.size + 1 < w1.heap.size := cell_lt z0
    replace z0 := cell_keep b2 z0
    replace z1 := cell_keep b2 z1
    replace fz : ∀ j, w2.frozen? ⟨w.heap.size + 1, j, none⟩ = false := fun j => (b2.frozen (p := ⟨w.heap.size + 1, j, none⟩) (by simp only; omega)).trans (fz j)
    by_cases hd : nextD legs off leg q < 0
    · have HN := Lib.hid (nextV_no (nextF2 (ch := ch) hd))
      go_wp2_with fail
      refine bodyPost_ret (v := .tuple #[.agg #[.int .i64 0, .int .i64 0], .bool false]) (by simp [results, Try.results19, go_sem, z0, z1]) rfl ⟨by rw [HN.out], (B2.setCell (by simp only; omega) _).setCell (by simp only; omega) _⟩
    · have HN := Lib.hid (nextV_yes (nextF3 hn (Int.not_lt.1 hd)))
      have hd' := Int.not_lt.1 hd
      go_wp2_with fail
      refine bodyPost_ret (v := .tuple #[.agg #[.int .i64 leg, .int .i64 (nextD legs off leg q)], .bool true]) (by simp [results, Try.results19, go_sem, z0, z1]) rfl ⟨by rw [HN.out], (B2.setCell (by simp only; omega) _).setCell (by simp only; omega) _⟩
set_option maxHeartbeats 6400000 in
theorem lastTripS (legs : List LegD) (off : List Int) (ch leg q : Int) (l o : Value) (w : World) (hok : ∀ x ∈ legs, x.ok) (hleg : okI leg) (hq : okI q) (sl : SliceOf w 6 LegD.vals l legs) (so : SliceOf w 1 vI o off) :
    Calls Try.prog 13 #[.agg #[l, o, .int .i64 ch], .int .i64 leg, .int .i64 q] w fun e w' => e = .returned (.tuple #[.agg #[.int .i64 (lastL legs off ch leg q), .int .i64 (lastE legs off ch leg q)], .bool (lastF legs off ch leg q)]) ∧ Below w.heap.size w w' := by
  obtain ⟨A, c, rfl, -, -⟩ := sl.form
  obtain ⟨A', c', rfl, -, -⟩ := so.form
  go_enter Try.func13, Try.ntmps13
  go_wp2_with fail
  obtain ⟨W, hW⟩ : ∃ W, W = (w.alloc (.cells #[.slice A legs.length c, .slice A' off.length c', .int .i64 ch] 35)).alloc (.cells #[.int .i64 0, .int .i64 0] 39) := ⟨_, rfl⟩
  try rw [← hW]
  have x0 : W.cell? ⟨w.heap.size, 0, none⟩ = some (.slice A legs.length c) := by rw [hW]; simp [go_sem]
  have x1 : W.cell? ⟨w.heap.size, 1, none⟩ = some (.slice A' off.length c') := by rw [hW]; simp [go_sem]
  have x2 : W.cell? ⟨w.heap.size, 2, none⟩ = some (.int .i64 ch) := by rw [hW]; simp [go_sem]
  have z0 : W.cell? ⟨w.heap.size + 1, 0, none⟩ = some (.int .i64 0) := by rw [hW]; simp [go_sem]
  have z1 : W.cell? ⟨w.heap.size + 1, 1, none⟩ = some (.int .i64 0) := by rw [hW]; simp [go_sem]
  have fz : ∀ j, W.frozen? ⟨w.heap.size + 1, j, none⟩ = false := fun j => by rw [hW]; simp [go_sem]
  have hs : W.heap.size = w.heap.size + 2 := by rw [hW]; simp
  have HW : Below w.heap.size w W := by rw [hW]; go_grown
  replace sl := sl.keep HW (Nat.le_refl _)
  replace so := so.keep HW (Nat.le_refl _)
  clear hW
  go_wp2_with fail
  refine (isNetS legs off ch _ _ _ hok sl so).mono ?_
  rintro e w1 ⟨rfl, b1⟩
  have B1 := chain HW b1
  replace x0 := cell_keep b1 x0
  replace x1 := cell_keep b1 x1
  replace x2 := cell_keep b1 x2
  replace z0 := cell_keep b1 z0
  replace z1 := cell_keep b1 z1
  replace fz : ∀ j, w1.frozen? ⟨w.heap.size + 1, j, none⟩ = false := fun j => (b1.frozen (p := ⟨w.heap.size + 1, j, none⟩) (by simp only; omega)).trans (fz j)
  replace sl := sl.keep b1 (Nat.le_refl _)
  replace so := so.keep b1 (Nat.le_refl _)
  cases hn : netB legs off ch
  · have HN := Lib.hid (lastV_no (lastF1 (leg := leg) (q := q) hn))
    go_wp2_with fail
    refine bodyPost_ret (v := .tuple #[.agg #[.int .i64 0, .int .i64 0], .bool false]) (by simp [results, Try.results13, go_sem, z0, z1]) rfl ⟨by rw [HN.out], (B1.setCell (by simp only; omega) _).setCell (by simp only; omega) _⟩
  · go_wp2_with fail
    refine (lastDS legs off ch leg q _ _ _ hn hleg hq sl so).mono ?_
    rintro e w2 ⟨rfl, b2⟩
    have B2 := chain B1 b2
    have lt1 : w.heap.size + 1 < w1.heap.size := cell_lt z0
    replace z0 := cell_keep b2 z0
    replace z1 := cell_keep b2 z1
    replace fz : ∀ j, w2.frozen? ⟨w.heap.size + 1, j, none⟩ = false := fun j => (b2.frozen (p := ⟨w.heap.size + 1, j, none⟩) (by simp only; omega)).trans (fz j)
    by_cases hd : lastD legs off leg q < 0
    · have HN := Lib.hid (lastV_no (lastF2 (ch := ch) hd))
      go_wp2_with fail
      refine bodyPost_ret (v := .tuple #[.agg #[.int .i64 0, .int .i64 0], .bool false]) (by simp [results, Try.results13, go_sem, z0, z1]) rfl ⟨by rw [HN.out], (B2.setCell (by simp only; omega) _).setCell (by simp only; omega) _⟩
    · have HN := Lib.hid (lastV_yes (lastF3 hn (Int.not_lt.1 hd)))
      have hd' := Int.not_lt.1 hd
      go_wp2_with fail
      refine bodyPost_ret (v := .tuple #[.agg #[.int .i64 leg, .int .i64 (lastD legs off leg q)], .bool true]) (by simp [results, Try.results13, go_sem, z0, z1]) rfl ⟨by rw [HN.out], (B2.setCell (by simp only; omega) _).setCell (by simp only; omega) _⟩
end Go.Proofs.Ytdnakeogofgpaaa
