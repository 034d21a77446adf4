/- How the laws copy and compare a list of numbers. No condition. -/
import Derived.Test.YtdmeinfdldiegaaSides
import Derived.Test.YtdmeinfdldiegaaOwn
namespace Go.Proofs.Ytdmeinfdldiegaa
open Go.RowKit Go.PlainAid
set_option maxRecDepth 100000
set_option linter.unusedVariables false

def MadeI (xs : List Int) (w : World) (e : Ending) (w' : World) : Prop := ∃ v, e = .returned v ∧ Own w' w.heap.size 3 1 vI v xs ∧ Below w.heap.size w w'
def MadeIS (xs : List Int) (w : World) (e : Ending) (w' : World) : Prop := e = .returned (.slice (some ⟨w.heap.size, 0, none⟩) xs.length xs.length) ∧ Own w' w.heap.size 3 1 vI (.slice (some ⟨w.heap.size, 0, none⟩) xs.length xs.length) xs ∧ Below w.heap.size w w'
set_option maxHeartbeats 800000 in
theorem toIntS_some (xs : List Int) (v : Value) (w : World) (h : SliceOf w 1 vI v xs) (hn : xs.length ≤ 1048576) : Calls Try.prog 26 #[v] w (MadeIS xs w) := by
  obtain ⟨A, c, rfl, hl, hm⟩ := h.form
  have hlt0 : (xs.length : Int) ≤ 1048576 := by omega
  clear hl hm
  obtain ⟨i0, hi, hz0, hz1, hz2⟩ := info_parts info_int
  go_enter Try.func26, Try.ntmps26
  go_wp2_with (at_make; refine wpList_make_full _ rfl _ _ 23 rfl w.heap.size 3 i0 _ 1 Try.underlying23 hi hz0 hz1 .i64 .i64 _ _ xs.length rfl rfl rfl rfl (by rw [hz2]; omega) (by unfold maxLen; omega) (Nat.le_refl _) ?_; intro w1 hown hg)
  have hB1 : Below w.heap.size w w1 := (Below.refl _ _).grown hg (Nat.le_refl _) (by simp)
  obtain ⟨L0, hL0⟩ : ∃ L0, L0 = (madeCells (Value.int .i64 0).cells (xs.length * 1)).toList := ⟨_, rfl⟩
  rw [← hL0] at hown
  clear hL0 hg hi hz0 hz1 hz2
  go_loopw [4] (fun i wr => ∃ (k : Nat) (L : List Value), k ≤ xs.length ∧ i = .int .i64 k ∧ wr.ownsRow w.heap.size 3 1 (.slice (some ⟨w.heap.size, 0, none⟩) xs.length xs.length) xs.length L ∧ Below w.heap.size w wr ∧ Hid (∀ j, j < k → L[j]? = (xs[j]?).map (Value.int .i64))) (fun i _ => xs.length - (intOf i).toNat)
  case atStart => exact ⟨0, L0, Nat.zero_le _, rfl, hown, hB1, fun j hj => by omega⟩
  case round =>
    obtain ⟨k, L, hk, rfl, hown', hB, H⟩ := hrel
    by_cases hlt : k < xs.length
    · obtain ⟨b, off, rfl, hb, hc⟩ := h.at1 hlt
      have hc' := (hB.cell (p := ⟨b, off + k, none⟩) hb).trans hc
      obtain ⟨x, hx⟩ : ∃ x, x = xs[k] := ⟨_, rfl⟩
      rw [← hx] at hc'
      have HX := Lib.hid hx; clear hx hc
      have hfr := hown'.frozenAt k
      have hlen : L.length = xs.length := by have := hown'.1; omega
      obtain ⟨u0, hcell⟩ : ∃ u0, wr.cell? ⟨w.heap.size, k, none⟩ = some u0 := ⟨_, (hown'.cellAt k (by omega)).trans (List.getElem?_eq_getElem (by omega))⟩
      have hst := hown'.stored k (.int .i64 x)
      have HS := Lib.hid hst; clear hst
      have Hlen := Lib.hid hlen; clear hlen
      go_wp2
      go_roundw
      case rel =>
        refine ⟨k + 1, L.set k (.int .i64 x), by omega, by go_num, HS.out.1, hB.setCell (Nat.le_refl _) _, ?_⟩
        intro j hj
        rw [List.getElem?_set]
        by_cases e : k = j
        · subst e
          rw [if_pos rfl, if_pos (by rw [Hlen.out]; exact hlt), List.getElem?_eq_getElem hlt, ← HX.out]; rfl
        · rw [if_neg e]; exact H.out j (by omega)
      case measure => simp [intOf]; omega
    · obtain rfl : k = xs.length := by omega
      have hlen : L.length = xs.length := by have := hown'.1; omega
      have hE : Own wr w.heap.size 3 1 vI (.slice (some ⟨w.heap.size, 0, none⟩) xs.length xs.length) xs := by
        have := row_eq_of hlen H.out
        subst this
        exact hown'
      have HE := Lib.hid hE; clear hE hlen hown'
      go_wp2
      go_ret
      exact ⟨rfl, HE.out, hB⟩
theorem toIntS_any (xs : List Int) (v : Value) (w : World) (h : SliceOf w 1 vI v xs) (hn : xs.length ≤ 1048576) : Calls Try.prog 26 #[v] w (MadeI xs w) := (toIntS_some xs v w h hn).mono fun e w' h => ⟨_, h.1, h.2.1, h.2.2⟩
set_option maxHeartbeats 800000 in
/-- Two lists are compared. -/
theorem eqIntS_any (xs ys : List Int) (u v : Value) (w : World) (hu : SliceOf w 1 vI u xs) (hv : SliceOf w 1 vI v ys) : Calls Try.prog 36 #[u, v] w fun e w' => e = .returned (.bool (decide (xs = ys))) ∧ Below w.heap.size w w' := by
  obtain ⟨A, c, rfl, hl, hm⟩ := hu.form
  obtain ⟨A', c', rfl, hl', hm'⟩ := hv.form
  unfold maxLen at hm hm'
  by_cases hlen : xs.length = ys.length
  · have hne : ((xs.length : Int) != (ys.length : Int)) = false := by simp [hlen]
    have hle : xs.length ≤ ys.length := by omega
    have HL := Lib.hid hlen; clear hlen
    go_enter Try.func36, Try.ntmps36
    go_wp2
    go_loopw [5] (fun i wr => ∃ k : Nat, k ≤ xs.length ∧ i = .int .i64 k ∧ Below w.heap.size w wr ∧ Hid (xs.take k = ys.take k)) (fun i _ => xs.length - (intOf i).toNat)
    case atStart => exact ⟨0, Nat.zero_le _, rfl, Below.refl _ _, by simp [Hid]⟩
    case round =>
      obtain ⟨k, hk, rfl, hB, H⟩ := hrel
      by_cases hlt : k < xs.length
      · have hlt' : k < ys.length := by omega
        obtain ⟨b, off, rfl, hb, hc⟩ := hu.at1 hlt
        obtain ⟨b', off', rfl, hb', hc'⟩ := hv.at1 hlt'
        have d := (hB.cell (p := ⟨b, off + k, none⟩) hb).trans hc
        have d' := (hB.cell (p := ⟨b', off' + k, none⟩) hb').trans hc'
        obtain ⟨x, hx⟩ : ∃ x, x = xs[k] := ⟨_, rfl⟩
        obtain ⟨y, hy⟩ : ∃ y, y = ys[k] := ⟨_, rfl⟩
        rw [← hx] at d
        rw [← hy] at d'
        have HX := Lib.hid hx; clear hx hc
        have HY := Lib.hid hy; clear hy hc'
        by_cases hxy : x = y
        · have hne' : (x != y) = false := by simp [hxy]
          have HXY := Lib.hid hxy; clear hxy
          go_wp2
          go_quiet (fail)
          go_wp2
          go_roundw
          case rel => exact ⟨k + 1, by omega, by go_num, below_drewN hB _, by
            show xs.take (k + 1) = ys.take (k + 1)
            rw [List.take_succ_eq_append_getElem hlt, List.take_succ_eq_append_getElem hlt', H.out, ← HX.out, ← HY.out, HXY.out]⟩
          case measure => simp [intOf]; omega
        · have hne' : (x != y) = true := by simp [hxy]
          have HXY := Lib.hid hxy; clear hxy
          go_wp2
          go_quiet (fail)
          go_wp2
          go_ret
          exact ⟨ret_bool (decide_eq_false (fun e => HXY.out (by rw [HX.out, HY.out]; subst e; rfl))).symm, below_drewN hB _⟩
      · obtain rfl : k = xs.length := by omega
        go_wp2
        go_ret
        refine ⟨ret_bool (decide_eq_true ?_).symm, hB⟩
        have := H.out
        rwa [List.take_length, HL.out, List.take_length] at this
  · have hne : ((xs.length : Int) != (ys.length : Int)) = true := by simp; omega
    go_enter Try.func36, Try.ntmps36
    go_wp2
    go_ret
    exact ⟨ret_bool (decide_eq_false (fun e => hlen (by rw [e]))).symm, Below.refl _ _⟩
end Go.Proofs.Ytdmeinfdldiegaa
