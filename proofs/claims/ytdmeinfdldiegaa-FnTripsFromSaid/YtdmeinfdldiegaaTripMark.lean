/- How the laws compare, mark and read back rows of trips. No condition. -/
import Derived.Test.YtdmeinfdldiegaaTripRow
import Derived.Test.YtdmeinfdldiegaaMarks
import Derived.Test.YtdmeinfdldiegaaTripCopy
import Derived.StillTailTactics
namespace Go.Proofs.Ytdmeinfdldiegaa
open Go.RowKit Go.PlainAid
set_option maxRecDepth 100000
set_option linter.unusedVariables false
/-- Trips as marks. -/
def markT (k : Nat) : TripD := ⟨(k : Int), ((k + 1 : Nat) : Int)⟩
def marksT (k n : Nat) : List TripD := (List.range n).map fun j => markT (k + 2 * j)
theorem marksT_succ (k n : Nat) : marksT k (n + 1) = marksT k n ++ [markT (k + 2 * n)] := by unfold marksT; rw [List.range_succ, List.map_append]; rfl
theorem marksT_len (k n : Nat) : (marksT k n).length = n := by unfold marksT; simp
theorem marksT_set {k n : Nat} {xs : List TripD} (h : n < xs.length) : (marksT k n ++ xs.drop n).set n (markT (k + 2 * n)) = marksT k (n + 1) ++ xs.drop (n + 1) := by
  rw [marksT_succ, List.drop_eq_getElem_cons h, List.set_append_right _ _ (by rw [marksT_len]; exact Nat.le_refl _), marksT_len, Nat.sub_self, List.set_cons_zero, List.append_assoc]; rfl
set_option maxHeartbeats 1600000 in
theorem eqTripS_same (xs : List TripD) (u v : Value) (w : World) (hu : SliceOf w 2 TripD.vals u xs) (hv : SliceOf w 2 TripD.vals v xs) : Calls Try.prog 9 #[u, v] w fun e w' => e = .returned (.bool true) ∧ Below w.heap.size w w' := by
  obtain ⟨A, c_, rfl, hl, hm⟩ := hu.form
  obtain ⟨A', c', rfl, hl', hm'⟩ := hv.form
  unfold maxLen at hm hm'
  go_enter Try.func9, Try.ntmps9
  go_wp2
  go_loopw [5] (fun i wr => ∃ k : Nat, k ≤ xs.length ∧ i = .int .i64 k ∧ Below w.heap.size w wr) (fun i _ => xs.length - (intOf i).toNat)
  case atStart => exact ⟨0, Nat.zero_le _, rfl, Below.refl _ _⟩
  case round =>
    obtain ⟨k, hk, rfl, hB⟩ := hrel
    by_cases hlt : k < xs.length
    · obtain ⟨b_, off, x, rfl, hb_, hx, hc⟩ := hu.cells hlt
      obtain ⟨b2, off2, y, rfl, hb2, hy, hd⟩ := hv.cells hlt
      obtain rfl : x = y := by have := hx.out.symm.trans hy.out; injection this
      obtain ⟨x0, x1⟩ := x
      have c0 : wr.cell? ⟨b_, off + k * 2, none⟩ = some (.int .i64 x0) := (hB.cell (p := ⟨b_, _, none⟩) hb_).trans (hc 0 _ rfl)
      have d0 : wr.cell? ⟨b2, off2 + k * 2, none⟩ = some (.int .i64 x0) := (hB.cell (p := ⟨b2, _, none⟩) hb2).trans (hd 0 _ rfl)
      have c1 : wr.cell? ⟨b_, off + k * 2 + 1, none⟩ = some (.int .i64 x1) := (hB.cell (p := ⟨b_, _, none⟩) hb_).trans (hc 1 _ rfl)
      have d1 : wr.cell? ⟨b2, off2 + k * 2 + 1, none⟩ = some (.int .i64 x1) := (hB.cell (p := ⟨b2, _, none⟩) hb2).trans (hd 1 _ rfl)
      clear hc hd
      go_wp2
      go_still_tail 8, (by kernel_rfl)
      change wpList _ _ _ _ _ wr.drew
      go_wp2_with fail
      refine (eqTrip_same _ _ _).mono ?_
      rintro e w1 ⟨rfl, b1⟩
      have B1 : Below w.heap.size w w1 := hB.drew.trans (b1.mono hB.size)
      go_wp2
      go_roundw
      case rel => exact ⟨k + 1, by omega, by go_num, B1⟩
      case measure => simp [intOf]; omega
    · obtain rfl : k = xs.length := by omega
      go_wp2
      go_ret
      exact ⟨rfl, hB⟩
set_option maxHeartbeats 1600000 in
theorem markTrips_any (xs : List TripD) (v : Value) (k base : Nat) (w : World) (h : Own w base 45 2 TripD.vals v xs) (h1 : 1 ≤ k) (h2 : k + 2 * xs.length < 100000000) (hbase : base ≤ w.heap.size) :
    Calls Try.prog 12 #[v, .int .i64 (k : Int)] w fun e w' => e = .returned (.int .i64 ((k + 2 * xs.length : Nat) : Int)) ∧ Own w' base 45 2 TripD.vals v (marksT k xs.length) ∧ w.grownBy w' v.ownBlock := by
  have hform := World.ownsRow.lt h
  rcases h.2 with ⟨rfl, h0⟩ | ⟨g, cap, cur, rfl, hbg, hg, hnc, hcm, hcs, htake⟩
  · have hx : xs = [] := List.eq_nil_of_length_eq_zero h0
    subst hx
    go_enter Try.func12, Try.ntmps12
    go_wp2_with fail
    go_loopw [1, 5] (fun kv iv wr => kv = .int .i64 (k : Int) ∧ iv = .int .i64 0 ∧ wr = w) (fun _ _ _ => 0)
    case atStart => exact ⟨rfl, rfl, rfl⟩
    case round =>
      obtain ⟨rfl, rfl, rfl⟩ := hrel
      go_wp2_with fail
      go_ret
      exact ⟨rfl, h, World.grownBy.refl _ _⟩
  · have hlt0 : g < w.heap.size := (hform g rfl).2
    unfold maxLen at hcm
    clear htake hcs hg hform
    go_enter Try.func12, Try.ntmps12
    go_wp2_with fail
    go_loopw [1, 5] (fun kv iv wr => ∃ n : Nat, n ≤ xs.length ∧ iv = .int .i64 n ∧ kv = .int .i64 ((k + 2 * n : Nat) : Int) ∧ wr.ownsRow base 45 2 (.slice (some ⟨g, 0, none⟩) xs.length cap) xs.length ((marksT k n ++ xs.drop n).flatMap TripD.vals) ∧ w.grownBy wr (some g)) (fun _ iv _ => xs.length - (intOf iv).toNat)
    case atStart => exact ⟨0, Nat.zero_le _, rfl, rfl, h, World.grownBy.refl _ _⟩
    case round =>
      obtain ⟨n, hn, rfl, rfl, hO, hG⟩ := hrel
      by_cases hlt : n < xs.length
      · have hGs := hG.size
        have e : (marksT k n ++ xs.drop n).length = xs.length := by rw [List.length_append, marksT_len, List.length_drop]; omega
        have hfr := hO.frozenAt
        have hl : ((marksT k n ++ xs.drop n).flatMap TripD.vals).length = xs.length * 2 := by rw [flatMap_len Trip_len, e]
        obtain ⟨u0, hcell⟩ : ∃ u0, wr.cell? ⟨g, n * 2, none⟩ = some u0 := ⟨_, (hO.cellAt (n * 2) (by omega)).trans (List.getElem?_eq_getElem (by omega))⟩
        obtain ⟨u1, hcell1⟩ : ∃ u1, wr.cell? ⟨g, n * 2 + 1, none⟩ = some u1 := ⟨_, (hO.cellAt (n * 2 + 1) (by omega)).trans (List.getElem?_eq_getElem (by omega))⟩
        have s1 := hO.stored (n * 2) (.int .i64 ((k + 2 * n : Nat) : Int))
        have s2 := s1.1.stored (n * 2 + 1) (.int .i64 ((k + 2 * n + 1 : Nat) : Int))
        have hst := s2.1
        have hf := flat_set (markT (k + 2 * n)) (marksT k n ++ xs.drop n) n
        rw [show (markT (k + 2 * n)).leg = ((k + 2 * n : Nat) : Int) from rfl, show (markT (k + 2 * n)).day = ((k + 2 * n + 1 : Nat) : Int) from rfl, marksT_set hlt] at hf
        rw [hf] at hst
        have hG2 := grown_trans (grown_trans hG s1.2) s2.2
        clear s1 s2 hf
        obtain ⟨z, hz⟩ : ∃ z : Int, z = ((k + 2 * n : Nat) : Int) := ⟨_, rfl⟩
        have hz1 : ((k + 2 * n + 1 : Nat) : Int) = z + 1 := by omega
        rw [hz1, ← hz] at hst hG2
        rw [← hz]
        have HS := Lib.hid hst; have HG2 := Lib.hid hG2; clear hst e hl hO hG2
        have z1 : 0 ≤ z := by omega
        have z2 : z < 100000000 := by omega
        have n0 : (0 : Int) ≤ (n : Int) := by omega
        have n1 : (n : Int) < (xs.length : Int) := by omega
        have HZ := Lib.hid hz; clear hz hG hz1
        go_wp2_with fail
        go_roundw
        case rel => exact ⟨n + 1, by omega, by go_num, by rw [HZ.out]; congr 1 <;> omega, HS.out, HG2.out⟩
        case measure => simp [intOf]; omega
      · obtain rfl : n = xs.length := by omega
        rw [List.drop_length, List.append_nil] at hO
        go_wp2_with fail
        go_ret
        refine ⟨rfl, ?_, hG⟩
        unfold Own; rw [marksT_len]; exact hO
set_option maxHeartbeats 1600000 in
theorem heldTrips_any (n : Nat) (v : Value) (k : Nat) (w : World) (h : SliceOf w 2 TripD.vals v (marksT k n)) (h1 : 1 ≤ k) (h2 : k + 2 * n < 100000000) : Calls Try.prog 13 #[v, .int .i64 (k : Int)] w fun e w' => e = .returned (.int .i64 ((k + 2 * n : Nat) : Int)) ∧ w = w' := by
  obtain ⟨A, c, rfl, hle, hm⟩ := h.form
  rw [marksT_len] at hle h ⊢
  unfold maxLen at hm
  go_enter Try.func13, Try.ntmps13
  go_wp2_with fail
  go_loop [1, 5] (fun kv iv => ∃ j : Nat, j ≤ n ∧ iv = .int .i64 j ∧ kv = .int .i64 ((k + 2 * j : Nat) : Int)) (fun _ iv => n - (intOf iv).toNat)
  case atStart => exact ⟨0, Nat.zero_le _, rfl, rfl⟩
  case round =>
    obtain ⟨j, hj, rfl, rfl⟩ := hrel
    by_cases hlt : j < n
    · have hlm : j < (marksT k n).length := by rw [marksT_len]; exact hlt
      obtain ⟨b_, off_, x, rfl, hb_, hx, hcell⟩ := h.cells hlm
      have hxe : x = markT (k + 2 * j) := by
        have := hx.out
        unfold marksT at this
        rw [List.getElem?_map, List.getElem?_range hlt] at this
        injection this with this; exact this.symm
      subst hxe
      have y0 : w.cell? ⟨b_, off_ + j * 2, none⟩ = some (.int .i64 ((k + 2 * j : Nat) : Int)) := hcell 0 _ rfl
      have y1 : w.cell? ⟨b_, off_ + j * 2 + 1, none⟩ = some (.int .i64 ((k + 2 * j + 1 : Nat) : Int)) := hcell 1 _ rfl
      clear hcell hx hlm
      have j0 : (0 : Int) ≤ (j : Int) := by omega
      have j1 : (j : Int) < (n : Int) := by omega
      obtain ⟨z, hz⟩ : ∃ z : Int, z = ((k + 2 * j : Nat) : Int) := ⟨_, rfl⟩
      rw [show ((k + 2 * j + 1 : Nat) : Int) = z + 1 by omega] at y1
      rw [← hz] at y0 ⊢
      have z1 : 0 ≤ z := by omega
      have z2 : z < 100000000 := by omega
      have z3 : (z != z) = false := by simp
      have z4 : (z + 1 != z + 1) = false := by simp
      have HZ := Lib.hid hz; clear hz
      go_wp2_with fail
      go_round
      case rel => exact ⟨j + 1, by omega, by go_num, by rw [HZ.out]; congr 1 <;> omega⟩
      case measure => simp [intOf]; omega
    · obtain rfl : j = n := by omega
      go_wp2_with fail
      go_ret
      exact ⟨rfl, rfl⟩
theorem heldTripsB (n : Nat) (v : Value) (k : Nat) (w : World) (h : SliceOf w 2 TripD.vals v (marksT k n)) (h1 : 1 ≤ k) (h2 : k + 2 * n < 100000000) : Calls Try.prog 13 #[v, .int .i64 (k : Int)] w fun e w' => e = .returned (.int .i64 ((k + 2 * n : Nat) : Int)) ∧ Below w.heap.size w w' :=
  (heldTrips_any n v k w h h1 h2).mono fun e w' h => ⟨h.1, by rw [← h.2]; exact Below.refl _ _⟩
end Go.Proofs.Ytdmeinfdldiegaa
