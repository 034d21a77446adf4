/- What legs are written as: the program's and the reference's alike. No condition. -/
import Derived.Test.YtemlgfbfomkdaaaDoorTimes
import Derived.Test.YtemlgfbfomkdaaaDoorLeg
import Derived.Test.YtemlgfbfomkdaaaDoorStrKit
import Derived.Test.YtemlgfbfomkdaaaDoorBits
import Derived.Deep.RegionHeld3
namespace Go.Proofs.YtemlgfbfomkdaaaDoor
open Go.RowKit Go.PlainAid
open Go.Lib (itoa decDigits decDigits_two)
set_option maxRecDepth 100000
set_option linter.unusedVariables false
/-- Bit j of a number, as a digit; the first k bits. -/
def dayC (d : Int) (j : Nat) : UInt8 := UInt8.ofNat (48 + (d / 2 ^ j % 2).toNat)
def daysL (d : Int) (k : Nat) : List UInt8 := (List.range k).map (dayC d)
theorem daysL_succ (d : Int) (k : Nat) : daysL d (k + 1) = daysL d k ++ [dayC d k] := by unfold daysL; rw [List.range_succ, List.map_append]; rfl
theorem daysL_len (d : Int) (k : Nat) : (daysL d k).length = k := by unfold daysL; simp
theorem day_text (d : Int) (j : Nat) : itoa (d / 2 ^ j % 2) = [dayC d j] := by rw [itoa_nat (by omega), dec_small (by omega)]; rfl
theorem shift_bit {d : Int} (h1 : 0 ≤ d) (h2 : d ≤ 127) (j : Nat) : bits .and .i64 (d / 2 ^ j) 1 = d / 2 ^ j % 2 := by
  obtain ⟨n, rfl⟩ := Int.eq_ofNat_of_zero_le h1
  have e : ((n : Int) / 2 ^ j) = ((n / 2 ^ j : Nat) : Int) := by simp
  have hlt : n / 2 ^ j ≤ n := Nat.div_le_self _ _
  rw [e]
  have := i64_and_nat (n / 2 ^ j) 1 (by omega) (by omega)
  rw [Nat.and_one_is_mod] at this
  have e2 : ((1 : Nat) : Int) = 1 := rfl
  rw [e2] at this
  rw [this]
  simp
def legG (d : LegD) : Bool := legB d.src d.dst d.start d.takes d.days d.room
def legL (d : LegD) : List UInt8 := d.src.data.toList ++ [45] ++ d.dst.data.toList ++ [32] ++ clockL d.start ++ [32] ++ itoa d.takes ++ [32] ++ daysL d.days 7 ++ [32] ++ itoa d.room
def legOf (d : LegD) : List UInt8 := if legG d then legL d else []
theorem legOf_yes {d : LegD} (h : legG d = true) : legOf d = legL d := if_pos h
theorem legOf_no {d : LegD} (h : legG d = false) : legOf d = [] := if_neg (by rw [h]; simp)
theorem legG_iff {d : LegD} (h : legG d = true) : plc d.src = true ∧ plc d.dst = true ∧ (d.src.toList == d.dst.toList) = false ∧ (0 ≤ d.start ∧ d.start ≤ 1439) ∧ (1 ≤ d.takes ∧ d.takes ≤ 4320) ∧ (1 ≤ d.days ∧ d.days ≤ 127) ∧ (0 ≤ d.room ∧ d.room ≤ 1000000) := by
  unfold legG legB at h
  simp only [Bool.and_eq_true, rng_iff, Bool.not_eq_true'] at h
  exact ⟨h.1.1.1.1.1.1, h.1.1.1.1.1.2, h.1.1.1.1.2, h.1.1.1.2, h.1.1.2, h.1.2, h.2⟩
set_option maxHeartbeats 8000000 in
theorem legI (f t : ByteArray) (a b c d : Int) (w : World) (hf : f.size ≤ maxLen) (ht' : t.size ≤ maxLen) (ht : Tabs w) : Calls Tryd.prog 13 #[.agg #[.string f, .string t, .int .i64 a, .int .i64 b, .int .i64 c, .int .i64 d]] w (SPost (legOf ⟨f, t, a, b, c, d⟩) w) := by
  go_enter Tryd.func13, Tryd.ntmps13
  go_wp2_with fail
  obtain ⟨W, hW⟩ : ∃ W, W = w.alloc (.cells #[.string f, .string t, .int .i64 a, .int .i64 b, .int .i64 c, .int .i64 d] 30) := ⟨_, rfl⟩
  try rw [← hW]
  have c0 : W.cell? ⟨w.heap.size, 0, none⟩ = some (.string f) := by rw [hW]; simp [go_sem]
  have c1 : W.cell? ⟨w.heap.size, 1, none⟩ = some (.string t) := by rw [hW]; simp [go_sem]
  have c2 : W.cell? ⟨w.heap.size, 2, none⟩ = some (.int .i64 a) := by rw [hW]; simp [go_sem]
  have c3 : W.cell? ⟨w.heap.size, 3, none⟩ = some (.int .i64 b) := by rw [hW]; simp [go_sem]
  have c4 : W.cell? ⟨w.heap.size, 4, none⟩ = some (.int .i64 c) := by rw [hW]; simp [go_sem]
  have c5 : W.cell? ⟨w.heap.size, 5, none⟩ = some (.int .i64 d) := by rw [hW]; simp [go_sem]
  have bW : Below w.heap.size w W := by rw [hW]; go_grown
  have hT := ht.keep bW
  clear hW
  refine (isLegI f t a b c d _ hf ht').mono ?_
  rintro e w0 ⟨rfl, b0⟩
  replace hT := hT.keep b0
  replace c0 := cell_keep b0 c0
  replace c1 := cell_keep b0 c1
  replace c2 := cell_keep b0 c2
  replace c3 := cell_keep b0 c3
  replace c4 := cell_keep b0 c4
  replace c5 := cell_keep b0 c5
  replace bW := chain bW b0
  cases hl : legB f t a b c d
  · go_wp2_with fail
    go_ret
    exact SPost.of (legOf_no (d := ⟨f, t, a, b, c, d⟩) hl).symm bW
  · obtain ⟨p1, p2, p3, p4, p5, p6, p7⟩ := legG_iff (d := ⟨f, t, a, b, c, d⟩) hl
    simp only at p1 p2 p4 p5 p6 p7
    have hy := legOf_yes (d := ⟨f, t, a, b, c, d⟩) hl
    have HY := Lib.hid hy; clear hy
    have HL := Lib.hid hl; clear hl
    clear p3
    have P6 := Lib.hid p6
    go_wp2_with fail
    go_loopw [3, 4] (fun s i wr => ∃ (k : Nat) (q : ByteArray), k ≤ 7 ∧ i = .int .i64 k ∧ s = .string q ∧ Hid (q.data.toList = daysL c k) ∧ q.size ≤ 7 ∧ wr.cell? ⟨w.heap.size, 0, none⟩ = some (.string f) ∧ wr.cell? ⟨w.heap.size, 1, none⟩ = some (.string t) ∧ wr.cell? ⟨w.heap.size, 2, none⟩ = some (.int .i64 a) ∧ wr.cell? ⟨w.heap.size, 3, none⟩ = some (.int .i64 b) ∧ wr.cell? ⟨w.heap.size, 4, none⟩ = some (.int .i64 c) ∧ wr.cell? ⟨w.heap.size, 5, none⟩ = some (.int .i64 d) ∧ Tabs wr ∧ Below w.heap.size w wr) (fun _ i _ => 7 - (intOf i).toNat)
    case atStart => exact ⟨0, _, by omega, rfl, rfl, rfl, by show 0 ≤ 7; omega, c0, c1, c2, c3, c4, c5, hT, bW⟩
    case round =>
      clear c0 c1 c2 c3 c4 c5 hT bW
      obtain ⟨k, q, hk, rfl, rfl, HQ, hq, c0, c1, c2, c3, c4, c5, hT, bW⟩ := hrel
      by_cases hlt : k < 7
      · have sb := shift_bit (by have := P6.out; omega : 0 ≤ c) P6.out.2 k
        generalize hg : c / 2 ^ k % 2 = g at sb
        have g0 : 0 ≤ g ∧ g ≤ 1 := by omega
        have HG := Lib.hid hg; clear hg
        obtain ⟨g0, g1⟩ := g0
        go_wp2_with fail
        refine (fmtI g _ (by unfold okI; omega) (hT)).mono ?_
        rintro e w1 ⟨r, rfl, Hr, hr, b1⟩
        have hr1 : r.data.toList = [dayC c k] := by rw [Hr.out, ← HG.out, day_text]
        have hr2 : r.size = 1 := by rw [← data_len, hr1]; rfl
        have HR := Lib.hid hr; clear hr
        have HR1 := Lib.hid hr1; clear hr1
        have hqs : q.size = k := by rw [← data_len, HQ.out, daysL_len]
        have hz : (q ++ r).size ≤ 7 := by rw [ByteArray.size_append]; omega
        have HZ := Lib.hid hz; clear hz
        have k1 := fun wx : World => run_string_add_sum (P := Tryd.prog) wx q r (by omega)
        clear hqs hr2
        go_wp2_with fail
        go_roundw
        case rel => exact ⟨k + 1, _, by omega, by go_num, rfl, by show _ = _; rw [ByteArray.data_append, Array.toList_append, HQ.out, HR1.out, daysL_succ], HZ.out, cell_keep b1 c0, cell_keep b1 c1, cell_keep b1 c2, cell_keep b1 c3, cell_keep b1 c4, cell_keep b1 c5, hT.keep b1, chain bW b1⟩
        case measure => simp [intOf]; omega
      · obtain rfl : k = 7 := by omega
        have zf : f.size ≤ 21 := by rw [(plc_iff.1 p1).1]; omega
        have zt : t.size ≤ 21 := by rw [(plc_iff.1 p2).1]; omega
        have za : (str (clockL a)).size ≤ 21 := by rw [str_size, clock_len p4.1 p4.2]; omega
        have zb : (str (itoa b)).size ≤ 21 := by rw [str_size]; exact Lib.itoa_length_le _ (by omega) (by omega)
        have zd : (str (itoa d)).size ≤ 21 := by rw [str_size]; exact Lib.itoa_length_le _ (by omega) (by omega)
        have z45 : (⟨#[45]⟩ : ByteArray).size = 1 := rfl
        have z32 : (⟨#[32]⟩ : ByteArray).size = 1 := rfl
        have k0 := fun wx : World => run_string_add_sum (P := Tryd.prog) wx (f) (⟨#[45]⟩) (by (repeat rw [ByteArray.size_append]); omega)
        have k1 := fun wx : World => run_string_add_sum (P := Tryd.prog) wx (f ++ ⟨#[45]⟩) (t) (by (repeat rw [ByteArray.size_append]); omega)
        have k2 := fun wx : World => run_string_add_sum (P := Tryd.prog) wx (f ++ ⟨#[45]⟩ ++ t) (⟨#[32]⟩) (by (repeat rw [ByteArray.size_append]); omega)
        have k3 := fun wx : World => run_string_add_sum (P := Tryd.prog) wx (f ++ ⟨#[45]⟩ ++ t ++ ⟨#[32]⟩) (str (clockL a)) (by (repeat rw [ByteArray.size_append]); omega)
        have k4 := fun wx : World => run_string_add_sum (P := Tryd.prog) wx (f ++ ⟨#[45]⟩ ++ t ++ ⟨#[32]⟩ ++ str (clockL a)) (⟨#[32]⟩) (by (repeat rw [ByteArray.size_append]); omega)
        have k5 := fun wx : World => run_string_add_sum (P := Tryd.prog) wx (f ++ ⟨#[45]⟩ ++ t ++ ⟨#[32]⟩ ++ str (clockL a) ++ ⟨#[32]⟩) (str (itoa b)) (by (repeat rw [ByteArray.size_append]); omega)
        have k6 := fun wx : World => run_string_add_sum (P := Tryd.prog) wx (f ++ ⟨#[45]⟩ ++ t ++ ⟨#[32]⟩ ++ str (clockL a) ++ ⟨#[32]⟩ ++ str (itoa b)) (⟨#[32]⟩) (by (repeat rw [ByteArray.size_append]); omega)
        have k7 := fun wx : World => run_string_add_sum (P := Tryd.prog) wx (f ++ ⟨#[45]⟩ ++ t ++ ⟨#[32]⟩ ++ str (clockL a) ++ ⟨#[32]⟩ ++ str (itoa b) ++ ⟨#[32]⟩) (q) (by (repeat rw [ByteArray.size_append]); omega)
        have k8 := fun wx : World => run_string_add_sum (P := Tryd.prog) wx (f ++ ⟨#[45]⟩ ++ t ++ ⟨#[32]⟩ ++ str (clockL a) ++ ⟨#[32]⟩ ++ str (itoa b) ++ ⟨#[32]⟩ ++ q) (⟨#[32]⟩) (by (repeat rw [ByteArray.size_append]); omega)
        have k9 := fun wx : World => run_string_add_sum (P := Tryd.prog) wx (f ++ ⟨#[45]⟩ ++ t ++ ⟨#[32]⟩ ++ str (clockL a) ++ ⟨#[32]⟩ ++ str (itoa b) ++ ⟨#[32]⟩ ++ q ++ ⟨#[32]⟩) (str (itoa d)) (by (repeat rw [ByteArray.size_append]); omega)
        clear z45 z32
        have oa := p4; have ob : okI b := by unfold okI; omega
        have od : okI d := by unfold okI; omega
        go_wp2_with fail
        go_region_held3 (fun V => V.cell? ⟨w.heap.size, 0, none⟩ = some (.string f) ∧ V.cell? ⟨w.heap.size, 1, none⟩ = some (.string t) ∧ V.cell? ⟨w.heap.size, 2, none⟩ = some (.int .i64 a) ∧ V.cell? ⟨w.heap.size, 3, none⟩ = some (.int .i64 b) ∧ V.cell? ⟨w.heap.size, 5, none⟩ = some (.int .i64 d) ∧ Tabs V ∧ Below w.heap.size w V) (((try go_split_ands); refine ⟨?_, ?_, ?_, ?_, ?_, ?_, ?_⟩ <;> first | assumption | (apply cell_keep <;> assumption) | (apply Tabs.keep <;> assumption) | (apply Below.drew; assumption) | (apply chain' <;> assumption))) (first | (go_at_call 29; refine (toEq (clockI a _ (by omega) (by omega) (by (try go_split_ands); assumption))).mono ?_; rintro e w' ⟨rfl, hb⟩) | (go_at_call 28; refine (toEq (fmtI _ _ (by first | exact ob | exact od) (by (try go_split_ands); assumption))).mono ?_; rintro e w' ⟨rfl, hb⟩))
        all_goals
          (try go_split_ands)
          go_wp2_with fail
          go_ret
          refine SPost.of ?_ (by assumption)
          rw [HY.out]
          simp only [ByteArray.data_append, Array.toList_append, HQ.out, str_data]
          rfl
set_option maxHeartbeats 8000000 in
theorem legS (f t : ByteArray) (a b c d : Int) (w : World) (hf : f.size ≤ maxLen) (ht' : t.size ≤ maxLen) (ht : Tabs w) : Calls Tryd.prog 33 #[.agg #[.string f, .string t, .int .i64 a, .int .i64 b, .int .i64 c, .int .i64 d]] w (SPost (legOf ⟨f, t, a, b, c, d⟩) w) := by
  go_enter Tryd.func33, Tryd.ntmps33
  go_wp2_with fail
  obtain ⟨W, hW⟩ : ∃ W, W = w.alloc (.cells #[.string f, .string t, .int .i64 a, .int .i64 b, .int .i64 c, .int .i64 d] 30) := ⟨_, rfl⟩
  try rw [← hW]
  have c0 : W.cell? ⟨w.heap.size, 0, none⟩ = some (.string f) := by rw [hW]; simp [go_sem]
  have c1 : W.cell? ⟨w.heap.size, 1, none⟩ = some (.string t) := by rw [hW]; simp [go_sem]
  have c2 : W.cell? ⟨w.heap.size, 2, none⟩ = some (.int .i64 a) := by rw [hW]; simp [go_sem]
  have c3 : W.cell? ⟨w.heap.size, 3, none⟩ = some (.int .i64 b) := by rw [hW]; simp [go_sem]
  have c4 : W.cell? ⟨w.heap.size, 4, none⟩ = some (.int .i64 c) := by rw [hW]; simp [go_sem]
  have c5 : W.cell? ⟨w.heap.size, 5, none⟩ = some (.int .i64 d) := by rw [hW]; simp [go_sem]
  have bW : Below w.heap.size w W := by rw [hW]; go_grown
  have hT := ht.keep bW
  clear hW
  refine (isLegS f t a b c d _ hf ht').mono ?_
  rintro e w0 ⟨rfl, b0⟩
  replace hT := hT.keep b0
  replace c0 := cell_keep b0 c0
  replace c1 := cell_keep b0 c1
  replace c2 := cell_keep b0 c2
  replace c3 := cell_keep b0 c3
  replace c4 := cell_keep b0 c4
  replace c5 := cell_keep b0 c5
  replace bW := chain bW b0
  cases hl : legB f t a b c d
  · go_wp2_with fail
    go_ret
    exact SPost.of (legOf_no (d := ⟨f, t, a, b, c, d⟩) hl).symm bW
  · obtain ⟨p1, p2, p3, p4, p5, p6, p7⟩ := legG_iff (d := ⟨f, t, a, b, c, d⟩) hl
    simp only at p1 p2 p4 p5 p6 p7
    have hy := legOf_yes (d := ⟨f, t, a, b, c, d⟩) hl
    have HY := Lib.hid hy; clear hy
    have HL := Lib.hid hl; clear hl
    clear p3
    have P6 := Lib.hid p6
    go_wp2_with fail
    go_loopw [3, 4] (fun s i wr => ∃ (k : Nat) (q : ByteArray), k ≤ 7 ∧ i = .int .i64 k ∧ s = .string q ∧ Hid (q.data.toList = daysL c k) ∧ q.size ≤ 7 ∧ wr.cell? ⟨w.heap.size, 0, none⟩ = some (.string f) ∧ wr.cell? ⟨w.heap.size, 1, none⟩ = some (.string t) ∧ wr.cell? ⟨w.heap.size, 2, none⟩ = some (.int .i64 a) ∧ wr.cell? ⟨w.heap.size, 3, none⟩ = some (.int .i64 b) ∧ wr.cell? ⟨w.heap.size, 4, none⟩ = some (.int .i64 c) ∧ wr.cell? ⟨w.heap.size, 5, none⟩ = some (.int .i64 d) ∧ Tabs wr ∧ Below w.heap.size w wr) (fun _ i _ => 7 - (intOf i).toNat)
    case atStart => exact ⟨0, _, by omega, rfl, rfl, rfl, by show 0 ≤ 7; omega, c0, c1, c2, c3, c4, c5, hT, bW⟩
    case round =>
      clear c0 c1 c2 c3 c4 c5 hT bW
      obtain ⟨k, q, hk, rfl, rfl, HQ, hq, c0, c1, c2, c3, c4, c5, hT, bW⟩ := hrel
      by_cases hlt : k < 7
      · have sb := shift_bit (by have := P6.out; omega : 0 ≤ c) P6.out.2 k
        generalize hg : c / 2 ^ k % 2 = g at sb
        have g0 : 0 ≤ g ∧ g ≤ 1 := by omega
        have HG := Lib.hid hg; clear hg
        obtain ⟨g0, g1⟩ := g0
        go_wp2_with fail
        refine (fmtS g _ (by unfold okI; omega)).mono ?_
        rintro e w1 ⟨r, rfl, Hr, hr, b1⟩
        have hr1 : r.data.toList = [dayC c k] := by rw [Hr.out, ← HG.out, day_text]
        have hr2 : r.size = 1 := by rw [← data_len, hr1]; rfl
        have HR := Lib.hid hr; clear hr
        have HR1 := Lib.hid hr1; clear hr1
        have hqs : q.size = k := by rw [← data_len, HQ.out, daysL_len]
        have hz : (q ++ r).size ≤ 7 := by rw [ByteArray.size_append]; omega
        have HZ := Lib.hid hz; clear hz
        have k1 := fun wx : World => run_string_add_sum (P := Tryd.prog) wx q r (by omega)
        clear hqs hr2
        go_wp2_with fail
        go_roundw
        case rel => exact ⟨k + 1, _, by omega, by go_num, rfl, by show _ = _; rw [ByteArray.data_append, Array.toList_append, HQ.out, HR1.out, daysL_succ], HZ.out, cell_keep b1 c0, cell_keep b1 c1, cell_keep b1 c2, cell_keep b1 c3, cell_keep b1 c4, cell_keep b1 c5, hT.keep b1, chain bW b1⟩
        case measure => simp [intOf]; omega
      · obtain rfl : k = 7 := by omega
        have zf : f.size ≤ 21 := by rw [(plc_iff.1 p1).1]; omega
        have zt : t.size ≤ 21 := by rw [(plc_iff.1 p2).1]; omega
        have za : (str (clockL a)).size ≤ 21 := by rw [str_size, clock_len p4.1 p4.2]; omega
        have zb : (str (itoa b)).size ≤ 21 := by rw [str_size]; exact Lib.itoa_length_le _ (by omega) (by omega)
        have zd : (str (itoa d)).size ≤ 21 := by rw [str_size]; exact Lib.itoa_length_le _ (by omega) (by omega)
        have z45 : (⟨#[45]⟩ : ByteArray).size = 1 := rfl
        have z32 : (⟨#[32]⟩ : ByteArray).size = 1 := rfl
        have k0 := fun wx : World => run_string_add_sum (P := Tryd.prog) wx (f) (⟨#[45]⟩) (by (repeat rw [ByteArray.size_append]); omega)
        have k1 := fun wx : World => run_string_add_sum (P := Tryd.prog) wx (f ++ ⟨#[45]⟩) (t) (by (repeat rw [ByteArray.size_append]); omega)
        have k2 := fun wx : World => run_string_add_sum (P := Tryd.prog) wx (f ++ ⟨#[45]⟩ ++ t) (⟨#[32]⟩) (by (repeat rw [ByteArray.size_append]); omega)
        have k3 := fun wx : World => run_string_add_sum (P := Tryd.prog) wx (f ++ ⟨#[45]⟩ ++ t ++ ⟨#[32]⟩) (str (clockL a)) (by (repeat rw [ByteArray.size_append]); omega)
        have k4 := fun wx : World => run_string_add_sum (P := Tryd.prog) wx (f ++ ⟨#[45]⟩ ++ t ++ ⟨#[32]⟩ ++ str (clockL a)) (⟨#[32]⟩) (by (repeat rw [ByteArray.size_append]); omega)
        have k5 := fun wx : World => run_string_add_sum (P := Tryd.prog) wx (f ++ ⟨#[45]⟩ ++ t ++ ⟨#[32]⟩ ++ str (clockL a) ++ ⟨#[32]⟩) (str (itoa b)) (by (repeat rw [ByteArray.size_append]); omega)
        have k6 := fun wx : World => run_string_add_sum (P := Tryd.prog) wx (f ++ ⟨#[45]⟩ ++ t ++ ⟨#[32]⟩ ++ str (clockL a) ++ ⟨#[32]⟩ ++ str (itoa b)) (⟨#[32]⟩) (by (repeat rw [ByteArray.size_append]); omega)
        have k7 := fun wx : World => run_string_add_sum (P := Tryd.prog) wx (f ++ ⟨#[45]⟩ ++ t ++ ⟨#[32]⟩ ++ str (clockL a) ++ ⟨#[32]⟩ ++ str (itoa b) ++ ⟨#[32]⟩) (q) (by (repeat rw [ByteArray.size_append]); omega)
        have k8 := fun wx : World => run_string_add_sum (P := Tryd.prog) wx (f ++ ⟨#[45]⟩ ++ t ++ ⟨#[32]⟩ ++ str (clockL a) ++ ⟨#[32]⟩ ++ str (itoa b) ++ ⟨#[32]⟩ ++ q) (⟨#[32]⟩) (by (repeat rw [ByteArray.size_append]); omega)
        have k9 := fun wx : World => run_string_add_sum (P := Tryd.prog) wx (f ++ ⟨#[45]⟩ ++ t ++ ⟨#[32]⟩ ++ str (clockL a) ++ ⟨#[32]⟩ ++ str (itoa b) ++ ⟨#[32]⟩ ++ q ++ ⟨#[32]⟩) (str (itoa d)) (by (repeat rw [ByteArray.size_append]); omega)
        clear z45 z32
        have oa := p4; have ob : okI b := by unfold okI; omega
        have od : okI d := by unfold okI; omega
        go_wp2_with fail
        go_region_held3 (fun V => V.cell? ⟨w.heap.size, 0, none⟩ = some (.string f) ∧ V.cell? ⟨w.heap.size, 1, none⟩ = some (.string t) ∧ V.cell? ⟨w.heap.size, 2, none⟩ = some (.int .i64 a) ∧ V.cell? ⟨w.heap.size, 3, none⟩ = some (.int .i64 b) ∧ V.cell? ⟨w.heap.size, 5, none⟩ = some (.int .i64 d) ∧ Tabs V ∧ Below w.heap.size w V) (((try go_split_ands); refine ⟨?_, ?_, ?_, ?_, ?_, ?_, ?_⟩ <;> first | assumption | (apply cell_keep <;> assumption) | (apply Tabs.keep <;> assumption) | (apply Below.drew; assumption) | (apply chain' <;> assumption))) (first | (go_at_call 36; refine (toEq (clockS a _ (by omega) (by omega) (by (try go_split_ands); assumption))).mono ?_; rintro e w' ⟨rfl, hb⟩) | (go_at_call 35; refine (toEq (fmtS _ _ (by first | exact ob | exact od))).mono ?_; rintro e w' ⟨rfl, hb⟩))
        all_goals
          (try go_split_ands)
          go_wp2_with fail
          go_ret
          refine SPost.of ?_ (by assumption)
          rw [HY.out]
          simp only [ByteArray.data_append, Array.toList_append, HQ.out, str_data]
          rfl
end Go.Proofs.YtemlgfbfomkdaaaDoor
