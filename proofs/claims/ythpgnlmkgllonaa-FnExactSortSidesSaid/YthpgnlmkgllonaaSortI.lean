/- The program's sort of sides: up to twelve numbers fall. No condition. -/
import Derived.Test.YthpgnlmkgllonaaSortMath
import Derived.Test.YthpgnlmkgllonaaSides
import Derived.Test.YthpgnlmkgllonaaOwn
import Derived.Sort.WalkA
import Derived.RegionTactic
import Derived.Test.YthpgnlmkgllonaaCur
import Derived.Test.YthpgnlmkgllonaaBoxes
namespace Go.Proofs.Ythpgnlmkgllonaa
open Go.RowKit Go.PlainAid Go.Sort
set_option maxRecDepth 100000
set_option linter.unusedVariables false
theorem slice_len (s : Value) (W : World) : Sem.run Try.prog (method (Try.prog.types.size + 99) 31 s "Len") W = .ok (47, s) W := by kernel_rfl
theorem slice_swap (s : Value) (W : World) : Sem.run Try.prog (method (Try.prog.types.size + 99) 31 s "Swap") W = .ok (50, s) W := by kernel_rfl
theorem slice_less (s : Value) (W : World) : Sem.run Try.prog (method (Try.prog.types.size + 100) 31 s "Less") W = .ok (48, s) W := by kernel_rfl
theorem step_len (B : Nat) (W : World) : Sem.run Try.prog (method (Try.prog.types.size + 100) 36 (.pointer (some ⟨B, 0, none⟩)) "Len") W = Sem.run Try.prog (do
    match ← loadVar 29 ⟨B, 0, none⟩ with
    | .iface t' v' => method (Try.prog.types.size + 99) t' v' "Len"
    | .nilIface => runtimePanic .nilDeref
    | _ => stuck "method row: interface value expected") W := by kernel_rfl
theorem step_less (B : Nat) (W : World) : Sem.run Try.prog (method (Try.prog.types.size + 100) 36 (.pointer (some ⟨B, 0, none⟩)) "Less") W = Sem.run Try.prog (do
    let v ← loadVar 38 ⟨B, 0, none⟩
    pure (51, v)) W := by kernel_rfl
theorem step_swap (B : Nat) (W : World) : Sem.run Try.prog (method (Try.prog.types.size + 100) 36 (.pointer (some ⟨B, 0, none⟩)) "Swap") W = Sem.run Try.prog (do
    match ← loadVar 29 ⟨B, 0, none⟩ with
    | .iface t' v' => method (Try.prog.types.size + 99) t' v' "Swap"
    | .nilIface => runtimePanic .nilDeref
    | _ => stuck "method row: interface value expected") W := by kernel_rfl
theorem meth_len (B : Nat) (s : Value) (W : World) (h : W.cell? ⟨B, 0, none⟩ = some (.iface 31 s)) : Sem.run Try.prog (method (Try.prog.types.size + 100) 36 (.pointer (some ⟨B, 0, none⟩)) "Len") W = .ok (47, s) W := by
  rw [step_len]
  have := slice_len s W
  simp [go_sem, h, loadVar]
  exact this
theorem meth_swap (B : Nat) (s : Value) (W : World) (h : W.cell? ⟨B, 0, none⟩ = some (.iface 31 s)) : Sem.run Try.prog (method (Try.prog.types.size + 100) 36 (.pointer (some ⟨B, 0, none⟩)) "Swap") W = .ok (50, s) W := by
  rw [step_swap]
  have := slice_swap s W
  simp [go_sem, h, loadVar]
  exact this
theorem meth_less (B : Nat) (s : Value) (W : World) (h : W.cell? ⟨B, 0, none⟩ = some (.iface 31 s)) : Sem.run Try.prog (method (Try.prog.types.size + 100) 36 (.pointer (some ⟨B, 0, none⟩)) "Less") W = .ok (51, .agg #[.iface 31 s]) W := by
  rw [step_less]
  simp [go_sem, h, loadVar]
/-- A row of a block: what it holds, and that it may be written. -/
def RowAt (w : World) (blk : Nat) (d : Array Int) : Prop := ∀ t, t < d.size → w.cell? ⟨blk, t, none⟩ = some (.int .i64 d[t]!) ∧ w.frozen? ⟨blk, t, none⟩ = false
set_option maxHeartbeats 1600000 in
theorem intLess (blk n c : Nat) (d : Array Int) (W : World) (h : RowAt W blk d) (hn : d.size = n) (hs : n ≤ 1048576) (i j : Nat) (hi : i < n) (hj : j < n) :
    Calls Try.prog 48 #[.slice (some ⟨blk, 0, none⟩) n c, .int .i64 i, .int .i64 j] W fun e w' => e = .returned (.bool (decide (d[i]! < d[j]!))) ∧ Below W.heap.size W w' := by
  have ci := (h i (by omega)).1
  have cj := (h j (by omega)).1
  obtain ⟨x, hx⟩ : ∃ x, x = d[i]! := ⟨_, rfl⟩
  obtain ⟨y, hy⟩ : ∃ y, y = d[j]! := ⟨_, rfl⟩
  rw [← hx] at ci ⊢
  rw [← hy] at cj ⊢
  clear hx hy hn h
  go_enter Try.func48, Try.ntmps48
  go_wp2
  go_quiet (fail)
  go_wp2
  go_ret
  exact ⟨rfl, below_drewN (Below.refl _ _) _⟩
set_option maxHeartbeats 1600000 in
theorem revLess (blk n c : Nat) (d : Array Int) (W : World) (h : RowAt W blk d) (hb : blk < W.heap.size) (hn : d.size = n) (hs : n ≤ 1048576) (i j : Nat) (hi : i < n) (hj : j < n) :
    Calls Try.prog 51 #[.agg #[.iface 31 (.slice (some ⟨blk, 0, none⟩) n c)], .int .i64 i, .int .i64 j] W fun e w' => e = .returned (.bool (gtI d[i]! d[j]!)) ∧ Below W.heap.size W w' := by
  have ms := fun W => slice_less (.slice (some ⟨blk, 0, none⟩) n c) W
  have B0 : Below W.heap.size W (W.alloc (.cells #[.iface 31 (.slice (some ⟨blk, 0, none⟩) n c)] 38)) := by go_grown
  have C := intLess blk n c d _ (fun t ht => ⟨(B0.cell (p := ⟨blk, t, none⟩) hb).trans (h t ht).1, (B0.frozen (p := ⟨blk, t, none⟩) hb).trans (h t ht).2⟩) hn hs j i hj hi
  clear hn h
  go_enter Try.func51, Try.ntmps51
  go_wp2_with fail
  refine C.mono ?_
  rintro e w1 ⟨rfl, b1⟩
  go_wp2_with fail
  go_ret
  exact ⟨rfl, chain B0 b1⟩
set_option maxHeartbeats 1600000 in
theorem intSwap (blk n c : Nat) (d : Array Int) (W : World) (h : RowAt W blk d) (hn : d.size = n) (hs : n ≤ 1048576) (i j : Nat) (hi : i < n) (hj : j < n) :
    Calls Try.prog 50 #[.slice (some ⟨blk, 0, none⟩) n c, .int .i64 i, .int .i64 j] W fun e w' => e = .returned (.tuple #[]) ∧ RowAt w' blk (swp d i j) ∧ Saves blk W w' := by
  have ci := (h i (by omega)).1
  have cj := (h j (by omega)).1
  have fi := (h i (by omega)).2
  have fj := (h j (by omega)).2
  obtain ⟨x, hx⟩ : ∃ x, x = d[i]! := ⟨_, rfl⟩
  obtain ⟨y, hy⟩ : ∃ y, y = d[j]! := ⟨_, rfl⟩
  rw [← hx] at ci
  rw [← hy] at cj
  obtain ⟨v', hy'⟩ := cell?_setCell_some (w := W) (p := ⟨blk, i, none⟩) (x := .int .i64 y) (q := ⟨blk, j, none⟩) cj
  have key : RowAt ((W.setCell ⟨blk, i, none⟩ (.int .i64 y)).setCell ⟨blk, j, none⟩ (.int .i64 x)) blk (swp d i j) := by
    intro t ht
    have ht' : t < n := by rw [← hn]; simpa [swp] using ht
    have ht2 : t < d.size := by omega
    have hj2 : j < d.size := by omega
    have hi2 : i < d.size := by omega
    have hc := (h t ht2).1
    have hf := (h t ht2).2
    constructor
    · by_cases e1 : t = j
      · subst e1
        have : (swp d i t)[t]! = x := by rw [hx]; simp [swp, Array.getElem!_eq_getD, Array.getD, hj2]
        rw [this]
        exact World.cell?_setCell_same _ _ _ hy'
      · rw [show ((W.setCell ⟨blk, i, none⟩ (.int .i64 y)).setCell ⟨blk, j, none⟩ (.int .i64 x)).cell? ⟨blk, t, none⟩ = (W.setCell ⟨blk, i, none⟩ (.int .i64 y)).cell? ⟨blk, t, none⟩ from by first | (simp [go_sem]; done) | (simp [go_sem]; omega)]
        by_cases e2 : t = i
        · subst e2
          have : (swp d t j)[t]! = y := by rw [hy]; simp [swp, Array.getElem!_eq_getD, Array.getD, hi2, Ne.symm e1]
          rw [this]
          exact World.cell?_setCell_same _ _ _ hc
        · have : (swp d i j)[t]! = d[t]! := by simp [swp, Array.getElem!_eq_getD, Array.getD, ht2, Ne.symm e1, Ne.symm e2]
          rw [this, show (W.setCell ⟨blk, i, none⟩ (.int .i64 y)).cell? ⟨blk, t, none⟩ = W.cell? ⟨blk, t, none⟩ from by first | (simp [go_sem]; done) | (simp [go_sem]; omega)]
          exact hc
    · simpa [go_sem] using hf
  clear hn h hx hy
  have KEY := Lib.hid key; clear key
  go_enter Try.func50, Try.ntmps50
  go_wp2
  go_region
  all_goals (try go_wp2)
  all_goals go_end0
  all_goals exact ⟨rfl, KEY.out, (((Saves.refl blk W).setCell rfl _).setCell rfl _).drew⟩
theorem RowAt.keep {w w' : World} {blk : Nat} {d : Array Int} (h : RowAt w blk d) (hb : blk < w.heap.size) (k : Below w.heap.size w w') : RowAt w' blk d :=
  fun t ht => ⟨(k.cell (p := ⟨blk, t, none⟩) hb).trans (h t ht).1, (k.frozen (p := ⟨blk, t, none⟩) hb).trans (h t ht).2⟩
set_option maxHeartbeats 6400000 in
theorem insSort (B blk n c : Nat) (d : Array Int) (W : World) (h : RowAt W blk d) (hb : blk < W.heap.size) (hB : W.cell? ⟨B, 0, none⟩ = some (.iface 31 (.slice (some ⟨blk, 0, none⟩) n c))) (hne : B ≠ blk) (hn : d.size = n) (hs : n ≤ 1048576) :
    Calls Try.prog 17 #[.iface 36 (.pointer (some ⟨B, 0, none⟩)), .int .i64 0, .int .i64 n] W fun e w' => e = .returned (.tuple #[]) ∧ RowAt w' blk (insertionSort gtI d 0 n) ∧ Saves blk W w' := by
  have ml := meth_less B (.slice (some ⟨blk, 0, none⟩) n c)
  have mw := meth_swap B (.slice (some ⟨blk, 0, none⟩) n c)
  have hlB := cell_lt hB
  have HN := Lib.hid hn; clear hn
  go_enter Try.func17, Try.ntmps17
  go_wp2_with fail
  go_loopw [6] (fun vi wr => ∃ (i : Nat) (dk : Array Int), vi = .int .i64 i ∧ 0 < i ∧ i ≤ n + 1 ∧ Hid (dk.size = n) ∧ RowAt wr blk dk ∧ Saves blk W wr ∧ Hid (insOuter gtI 0 n i dk = insOuter gtI 0 n 1 d)) (fun vi _ => n + 1 - (intOf vi).toNat)
  case atStart => exact ⟨1, d, rfl, by omega, by omega, HN, h, Saves.refl _ _, rfl⟩
  case round =>
    obtain ⟨i, dk, rfl, hi0, hin, hsk, hR, hS, hO⟩ := hrel
    obtain ⟨wo, rfl⟩ : ∃ wo : World, wo = wr := ⟨_, rfl⟩
    by_cases hlt : i < n
    · have hBw := hS.at' hB hne
      go_wp2_with fail
      go_loopw [7] (fun vj wr => ∃ (j : Nat) (dj : Array Int), vj = .int .i64 j ∧ j ≤ i ∧ Hid (dj.size = n) ∧ RowAt wr blk dj ∧ Saves blk W wr ∧ Hid (insInner gtI 0 j dj = insInner gtI 0 i dk)) (fun vj _ => (intOf vj).toNat)
      case atStart => exact ⟨i, dk, rfl, Nat.le_refl _, hsk, hR, hS, rfl⟩
      case round =>
        obtain ⟨j, dj, rfl, hji, hsj, hRj, hSj, hI⟩ := hrel
        have out : (j ≤ 0 ∨ gtI dj[j]! dj[j - 1]! = false) → insOuter gtI 0 n (i + 1) dj = insOuter gtI 0 n 1 d := fun hst => by
          rw [← hO.out, insOuter_go _ _ _ _ _ hlt, ← hI.out, insInner_stop _ _ _ _ hst]
        have OUT := Lib.hid out; clear out
        by_cases hj0 : 0 < j
        · have hbj : blk < wr.heap.size := by have := hSj.size; omega
          have hBj := hSj.at' hB hne
          have hl := revLess blk n c dj wr hRj hbj hsj.out hs j (j - 1) (by omega) (by omega)
          rw [show (((j - 1 : Nat) : Int)) = (j : Int) - 1 by omega] at hl
          have ml2 : Sem.run Try.prog (method 177 36 (.pointer (some ⟨B, 0, none⟩)) "Less") wr = .ok (51, .agg #[.iface 31 (.slice (some ⟨blk, 0, none⟩) n c)]) wr := ml wr hBj
          have hj1 : (0 : Int) < (j : Int) := by omega
          cases hlv : gtI dj[j]! dj[j - 1]!
          · rw [hlv] at hl
            have HLV := Lib.hid hlv; clear hlv
            go_wp2_with fail
            refine hl.mono ?_
            rintro e w1 ⟨rfl, b1⟩
            have R1 := hRj.keep hbj b1
            have S1 := hSj.trans (Saves.of_below b1)
            go_wp2_with fail
            go_roundw
            case rel => exact ⟨i + 1, dj, by go_num, by omega, by omega, hsj, R1, S1, OUT.out (Or.inr HLV.out)⟩
            case measure => simp [intOf]; omega
          · rw [hlv] at hl
            have HLV := Lib.hid hlv; clear hlv
            go_wp2_with fail
            refine hl.mono ?_
            rintro e w1 ⟨rfl, b1⟩
            have R1 := hRj.keep hbj b1
            have S1 := hSj.trans (Saves.of_below b1)
            have mw1 : Sem.run Try.prog (method 177 36 (.pointer (some ⟨B, 0, none⟩)) "Swap") w1 = .ok (50, .slice (some ⟨blk, 0, none⟩) n c) w1 := mw w1 (cell_keep b1 hBj)
            have hsw := intSwap blk n c dj w1 R1 hsj.out hs j (j - 1) (by omega) (by omega)
            rw [show (((j - 1 : Nat) : Int)) = (j : Int) - 1 by omega] at hsw
            go_wp2_with fail
            refine hsw.mono ?_
            rintro e w2 ⟨rfl, R2, s2⟩
            have S2 := S1.trans s2
            go_wp2_with fail
            go_roundw
            case rel => exact ⟨j - 1, swp dj j (j - 1), by congr 1; omega, by omega, Lib.hid (by simpa [swp] using hsj.out), R2, S2, Lib.hid (by rw [← hI.out, insInner_go gtI 0 j dj hj0 HLV.out])⟩
            case measure => simp [intOf]; omega
        · obtain rfl : j = 0 := by omega
          go_wp2_with fail
          go_roundw
          case rel => exact ⟨i + 1, dj, by go_num, by omega, by omega, hsj, hRj, hSj, OUT.out (Or.inl (by omega))⟩
          case measure => simp [intOf]; omega
    · go_wp2_with fail
      go_end0
      exact ⟨rfl, by unfold insertionSort; rw [← hO.out, insOuter_stop _ _ _ _ _ hlt]; exact hR, hS⟩
end Go.Proofs.Ythpgnlmkgllonaa
