/- How the laws mark, read back, compare and search a list of texts. No condition. -/
import Derived.Test.YtpodbdmeamgpgaaDoorAmended
import Derived.Deep.RegionHeld3
namespace Go.Proofs.YtpodbdmeamgpgaaDoor
open Go.RowKit Go.PlainAid
open Go.Lib (itoa decDigits decDigits_two)
set_option maxRecDepth 100000
set_option linter.unusedVariables false
/-- A mark: the letter m and a number. -/
def mtx (k : Nat) : ByteArray := str (109 :: decDigits k)
def marks (k n : Nat) : List ByteArray := (List.range n).map fun j => mtx (k + j)
theorem marks_succ (k n : Nat) : marks k (n + 1) = marks k n ++ [mtx (k + n)] := by unfold marks; rw [List.range_succ, List.map_append]; rfl
theorem marks_len (k n : Nat) : (marks k n).length = n := by unfold marks; simp
theorem mtx_size {k : Nat} (h : k < 1000000) : (mtx k).size ≤ 8 := by
  have := dec_len 6 k (by omega)
  show (109 :: decDigits k).length ≤ 8
  rw [List.length_cons]; omega
set_option maxHeartbeats 1600000 in
theorem markText_any (k : Nat) (w : World) (h1 : 1 ≤ k) (h2 : k < 1000000) : Calls Tryd.prog 88 #[.int .i64 (k : Int)] w fun e w' => e = .returned (.string (mtx k)) ∧ Below w.heap.size w w' := by
  have k0 : ¬ (k : Int) ≤ 0 := by omega
  have hcv := conv1
  go_enter Tryd.func88, Tryd.ntmps88
  go_wp2_with fail
  go_loopw [0, 3] (fun kv ov wr => ∃ (r : ByteArray) (y : Int), ov = .string r ∧ kv = .int .i64 y ∧ Hid (dgs y.natAbs ++ r.data.toList = dgs k) ∧ 0 ≤ y ∧ y ≤ k ∧ r.size ≤ 20 ∧ Below w.heap.size w wr) (fun kv _ _ => (intOf kv).natAbs)
  case atStart => exact ⟨_, k, rfl, rfl, by simp [Hid], by omega, by omega, by show 0 ≤ 20; omega, Below.refl _ _⟩
  case round =>
    obtain ⟨r, y, rfl, rfl, H, hy0, hle, hr, hb⟩ := hrel
    by_cases hy : y = 0
    · subst hy
      have HE : Hid ((⟨#[109]⟩ : ByteArray) ++ r = mtx k) := Lib.hid (by
        have h := H.out
        have e1 : dgs (Int.natAbs 0) = [] := rfl
        have e2 : dgs k = decDigits k := if_neg (by omega)
        rw [e1, e2] at h
        exact str_of (by rw [ByteArray.data_append, Array.toList_append]; show [109] ++ r.data.toList = 109 :: decDigits k; rw [← h]; rfl))
      go_wp2_with fail
      go_ret
      exact ⟨ret_string HE.out, hb⟩
    · have y0 : (0 : Int) < y := by omega
      have y1 : y < 1000000 := by omega
      have T4 : Hid ((y / 10).natAbs = y.natAbs / 10) := Lib.hid (by omega)
      have H2 := fmt_step (d := y % 10) (y' := y / 10) hy (by omega) T4.out H
      have HB : Hid (((⟨#[UInt8.ofNat (48 + y % 10).toNat]⟩ : ByteArray) ++ r).size ≤ 20) := Lib.hid (by
        have h := congrArg List.length H2.out
        rw [List.length_append, data_len] at h
        have h3 := dgs_len (u := k) (by omega)
        omega)
      go_wp2_with fail
      go_roundw
      case rel => exact ⟨_, _, rfl, rfl, H2, by omega, by omega, HB.out, hb.alloc hb.size _⟩
      case measure => show (y / 10).natAbs < y.natAbs; rw [T4.out]; omega
theorem marks_set {k n : Nat} {xs : List ByteArray} (h : n < xs.length) : ((marks k n ++ xs.drop n).flatMap vS).set n (.string (mtx (k + n))) = (marks k (n + 1) ++ xs.drop (n + 1)).flatMap vS := by
  have e : ∀ l : List ByteArray, l.flatMap vS = l.map Value.string := fun l => by induction l with | nil => rfl | cons x l ih => simp [vS, ih]
  rw [e, e, marks_succ, List.drop_eq_getElem_cons h, List.map_append, List.map_append]
  have hl : ((marks k n).map Value.string).length = n := by rw [List.length_map, marks_len]
  rw [List.set_append_right _ _ (by omega), hl, Nat.sub_self, List.map_cons, List.set_cons_zero]
  simp only [List.map_append, List.map_cons, List.map_nil, List.append_assoc, List.cons_append, List.nil_append]
set_option maxHeartbeats 1600000 in
theorem markS_any (xs : List ByteArray) (v : Value) (k base : Nat) (w : World) (h : Own w base 9 1 vS v xs) (h1 : 1 ≤ k) (h2 : k + xs.length < 1000000) (hbase : base ≤ w.heap.size) :
    Calls Tryd.prog 53 #[v, .int .i64 (k : Int)] w fun e w' => e = .returned (.int .i64 ((k + xs.length : Nat) : Int)) ∧ Own w' base 9 1 vS v (marks k xs.length) ∧ w.grownBy w' v.ownBlock := by
  have hform := World.ownsRow.lt h
  rcases h.2 with ⟨rfl, h0⟩ | ⟨g, cap, cur, rfl, hbg, hg, hnc, hcm, hcs, htake⟩
  · have hx : xs = [] := List.eq_nil_of_length_eq_zero h0
    subst hx
    go_enter Tryd.func53, Tryd.ntmps53
    go_wp2_with fail
    go_loopw [1, 5] (fun kv iv wr => kv = .int .i64 (k : Int) ∧ iv = .int .i64 0 ∧ wr = w) (fun _ _ _ => 0)
    case atStart => exact ⟨rfl, rfl, rfl⟩
    case round =>
      obtain ⟨rfl, rfl, rfl⟩ := hrel
      go_wp2_with fail
      go_ret
      exact ⟨rfl, h, World.grownBy.refl _ _⟩
  · have hlt0 : g < w.heap.size := (hform g rfl).2
    unfold maxLen at hcm
    clear htake hcs hg hform
    go_enter Tryd.func53, Tryd.ntmps53
    go_wp2_with fail
    go_loopw [1, 5] (fun kv iv wr => ∃ n : Nat, n ≤ xs.length ∧ iv = .int .i64 n ∧ kv = .int .i64 ((k + n : Nat) : Int) ∧ wr.ownsRow base 9 1 (.slice (some ⟨g, 0, none⟩) xs.length cap) xs.length ((marks k n ++ xs.drop n).flatMap vS) ∧ w.grownBy wr (some g)) (fun _ iv _ => xs.length - (intOf iv).toNat)
    case atStart => exact ⟨0, Nat.zero_le _, rfl, rfl, h, World.grownBy.refl _ _⟩
    case round =>
      obtain ⟨n, hn, rfl, rfl, hO, hG⟩ := hrel
      by_cases hlt : n < xs.length
      · have hGs := hG.size
        go_wp2_with fail
        refine (markText_any (k + n) _ (by omega) (by omega)).mono ?_
        rintro e w1 ⟨rfl, b1⟩
        have hO1 := (show Own wr base 9 1 vS (.slice (some ⟨g, 0, none⟩) xs.length cap) (marks k n ++ xs.drop n) from by
          have e : (marks k n ++ xs.drop n).length = xs.length := by rw [List.length_append, marks_len, List.length_drop]; omega
          unfold Own; rw [e]; exact hO).keep b1 (Nat.le_refl _)
        have e : (marks k n ++ xs.drop n).length = xs.length := by rw [List.length_append, marks_len, List.length_drop]; omega
        unfold Own at hO1
        rw [e] at hO1
        have hG1 : w.grownBy w1 (some g) := ⟨b1.os.trans hG.os, b1.tape.trans hG.tape, b1.output.trans hG.output, Nat.le_trans hG.size b1.size, fun i hi hne => (b1.block i (Nat.lt_of_lt_of_le hi hG.size)).trans (hG.block i hi hne)⟩
        have hfr := hO1.frozenAt n
        have hl : ((marks k n ++ xs.drop n).flatMap vS).length = xs.length := by rw [flatMap_len vS_len, e]; omega
        obtain ⟨u0, hcell⟩ : ∃ u0, w1.cell? ⟨g, n, none⟩ = some u0 := ⟨_, (hO1.cellAt n (by omega)).trans (List.getElem?_eq_getElem (by omega))⟩
        have hst := hO1.stored n (.string (mtx (k + n)))
        rw [marks_set hlt] at hst
        have HS := Lib.hid hst; clear hst e hl hO hO1
        have hG2 : w.grownBy (w1.setCell ⟨g, n, none⟩ (.string (mtx (k + n)))) (some g) := ⟨HS.out.2.os.trans hG1.os, HS.out.2.tape.trans hG1.tape, HS.out.2.output.trans hG1.output, Nat.le_trans hG1.size HS.out.2.size, fun i hi hne => (HS.out.2.block i (Nat.lt_of_lt_of_le hi hG1.size) hne).trans (hG1.block i hi hne)⟩
        clear hG hG1
        go_wp2_with fail
        go_roundw
        case rel => exact ⟨n + 1, by omega, by go_num, by congr 1 <;> omega, HS.out.1, hG2⟩
        case measure => simp [intOf]; omega
      · obtain rfl : n = xs.length := by omega
        rw [List.drop_length, List.append_nil] at hO
        go_wp2_with fail
        go_ret
        refine ⟨rfl, ?_, hG⟩
        unfold Own; rw [marks_len]; exact hO
set_option maxHeartbeats 1600000 in
theorem heldS_any (n : Nat) (v : Value) (k : Nat) (w : World) (h : SliceOf w 1 vS v (marks k n)) (h1 : 1 ≤ k) (h2 : k + n < 1000000) : Calls Tryd.prog 54 #[v, .int .i64 (k : Int)] w fun e w' => e = .returned (.int .i64 ((k + n : Nat) : Int)) ∧ Below w.heap.size w w' := by
  obtain ⟨A, c, rfl, hle, hm⟩ := h.form
  rw [marks_len] at hle h ⊢
  unfold maxLen at hm
  go_enter Tryd.func54, Tryd.ntmps54
  go_wp2_with fail
  go_loopw [1, 5] (fun kv iv wr => ∃ j : Nat, j ≤ n ∧ iv = .int .i64 j ∧ kv = .int .i64 ((k + j : Nat) : Int) ∧ Below w.heap.size w wr) (fun _ iv _ => n - (intOf iv).toNat)
  case atStart => exact ⟨0, Nat.zero_le _, rfl, rfl, Below.refl _ _⟩
  case round =>
    obtain ⟨j, hj, rfl, rfl, hB⟩ := hrel
    by_cases hlt : j < n
    · have hlm : j < (marks k n).length := by rw [marks_len]; exact hlt
      obtain ⟨b_, off_, x, rfl, hb_, hx, hcell⟩ := h.cells hlm
      have hxe : x = mtx (k + j) := by
        have := hx.out
        unfold marks at this
        rw [List.getElem?_map, List.getElem?_range hlt] at this
        injection this with this; exact this.symm
      have y0 : w.cell? ⟨b_, off_ + j, none⟩ = some (.string (mtx (k + j))) := by rw [← hxe]; simpa using hcell 0 _ rfl
      have y1 := (hB.cell (p := ⟨b_, off_ + j, none⟩) hb_).trans y0
      clear hxe y0 hcell hx hlm
      have j0 : (0 : Int) ≤ (j : Int) := by omega
      have j1 : (j : Int) < (n : Int) := by omega
      go_wp2_with fail
      go_region_held3 (fun V => V.cell? ⟨b_, off_ + j, none⟩ = some (.string (mtx (k + j))) ∧ Below w.heap.size w V) (((try go_split_ands); refine ⟨?_, ?_⟩ <;> first | assumption | (apply cell_keep <;> assumption) | (apply Below.drew; assumption) | (apply chain' <;> assumption))) (first | (go_at_call 88; refine (markText_any (k + j) _ (by omega) (by omega)).mono ?_; rintro e w' ⟨rfl, hb⟩))
      all_goals
        (try go_split_ands)
        go_wp2_with fail
        go_roundw
        case rel => exact ⟨j + 1, by omega, by go_num, by congr 1 <;> omega, by assumption⟩
        case measure => simp [intOf]; omega
    · obtain rfl : j = n := by omega
      go_wp2_with fail
      go_ret
      exact ⟨rfl, hB⟩
set_option maxHeartbeats 1600000 in
theorem eqS_same (xs : List ByteArray) (u v : Value) (w : World) (hu : SliceOf w 1 vS u xs) (hv : SliceOf w 1 vS v xs) : Calls Tryd.prog 52 #[u, v] w fun e w' => e = .returned (.bool true) ∧ Below w.heap.size w w' := by
  obtain ⟨A, c, rfl, hl, hm⟩ := hu.form
  obtain ⟨A', c', rfl, hl', hm'⟩ := hv.form
  unfold maxLen at hm hm'
  go_enter Tryd.func52, Tryd.ntmps52
  go_wp2_with fail
  go_loopw [5] (fun i wr => ∃ k : Nat, k ≤ xs.length ∧ i = .int .i64 k ∧ Below w.heap.size w wr) (fun i _ => xs.length - (intOf i).toNat)
  case atStart => exact ⟨0, Nat.zero_le _, rfl, Below.refl _ _⟩
  case round =>
    obtain ⟨k, hk, rfl, hB⟩ := hrel
    by_cases hlt : k < xs.length
    · obtain ⟨b_, off_, x, rfl, hb_, hx, hcell⟩ := hu.cells hlt
      obtain ⟨b', off', y, rfl, hb', hy, hcell'⟩ := hv.cells hlt
      have hxy : y = x := Option.some.inj (hy.out.symm.trans hx.out)
      rw [hxy] at hcell'
      have d : w.cell? ⟨b_, off_ + k, none⟩ = some (.string x) := by simpa using hcell 0 _ rfl
      have d' : w.cell? ⟨b', off' + k, none⟩ = some (.string x) := by simpa using hcell' 0 _ rfl
      replace d := (hB.cell (p := ⟨b_, off_ + k, none⟩) hb_).trans d
      replace d' := (hB.cell (p := ⟨b', off' + k, none⟩) hb').trans d'
      clear hxy hcell hcell' hx hy
      have k0 : (0 : Int) ≤ (k : Int) := by omega
      have k1 : (k : Int) < (xs.length : Int) := by omega
      go_wp2
      go_quiet (fail)
      go_wp2
      go_roundw
      case rel => exact ⟨k + 1, by omega, by go_num, below_drewN hB _⟩
      case measure => simp [intOf]; omega
    · obtain rfl : k = xs.length := by omega
      go_wp2
      go_ret
      exact ⟨rfl, hB⟩
end Go.Proofs.YtpodbdmeamgpgaaDoor
