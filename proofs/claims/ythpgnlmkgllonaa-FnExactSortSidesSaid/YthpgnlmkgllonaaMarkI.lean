/- How the laws mark and read back rows of numbers (Marks without its other kinds). No condition. -/
import Derived.Test.YthpgnlmkgllonaaOwn
import Derived.Test.YthpgnlmkgllonaaSides
import Derived.Test.YthpgnlmkgllonaaRecs
namespace Go.Proofs.Ythpgnlmkgllonaa
open Go.RowKit Go.PlainAid
set_option maxRecDepth 100000
set_option linter.unusedVariables false
theorem Own.grownM {α : Type} {w w' : World} {B size : Nat} {e : TypeId} {vals : α → List Value} {v : Value} {xs : List α} (h : Own w B e size vals v xs) (hg : w.grownBy w' v.ownBlock) (hB : B ≤ w.heap.size) : Below B w w' :=
  ⟨hg.os, hg.tape, hg.output, hg.size, fun k hk => hg.block k (by omega) (by intro q; have := (World.ownsRow.lt h k q.symm).1; omega)⟩
theorem grown_trans {w a b : World} {row : Option Nat} (h : w.grownBy a row) (g : a.grownBy b row) : w.grownBy b row := ⟨g.os.trans h.os, g.tape.trans h.tape, g.output.trans h.output, Nat.le_trans h.size g.size, fun i hi hne => (g.block i (Nat.lt_of_lt_of_le hi h.size) hne).trans (h.block i hi hne)⟩
/-- Numbers as marks. -/
def marksI (k n : Nat) : List Int := (List.range n).map fun j => ((k + j : Nat) : Int)
theorem marksI_succ (k n : Nat) : marksI k (n + 1) = marksI k n ++ [((k + n : Nat) : Int)] := by unfold marksI; rw [List.range_succ, List.map_append]; rfl
theorem marksI_len (k n : Nat) : (marksI k n).length = n := by unfold marksI; simp
theorem marksI_set {k n : Nat} {xs : List Int} (h : n < xs.length) : ((marksI k n ++ xs.drop n).flatMap vI).set n (.int .i64 ((k + n : Nat) : Int)) = (marksI k (n + 1) ++ xs.drop (n + 1)).flatMap vI := by
  rw [flatMap_vI, flatMap_vI, marksI_succ, List.drop_eq_getElem_cons h, List.map_append, List.map_append]
  have hl : ((marksI k n).map (Value.int .i64)).length = n := by rw [List.length_map, marksI_len]
  rw [List.set_append_right _ _ (by omega), hl, Nat.sub_self, List.map_cons, List.set_cons_zero]
  simp only [List.map_append, List.map_cons, List.map_nil, List.append_assoc, List.cons_append, List.nil_append]
set_option maxHeartbeats 1600000 in
theorem markI_any (xs : List Int) (v : Value) (k base : Nat) (w : World) (h : Own w base 3 1 vI v xs) (h1 : 1 ≤ k) (h2 : k + xs.length < 100000000) (hbase : base ≤ w.heap.size) :
    Calls Try.prog 8 #[v, .int .i64 (k : Int)] w fun e w' => e = .returned (.int .i64 ((k + xs.length : Nat) : Int)) ∧ Own w' base 3 1 vI v (marksI k xs.length) ∧ w.grownBy w' v.ownBlock := by
  have hform := World.ownsRow.lt h
  rcases h.2 with ⟨rfl, h0⟩ | ⟨g, cap, cur, rfl, hbg, hg, hnc, hcm, hcs, htake⟩
  · have hx : xs = [] := List.eq_nil_of_length_eq_zero h0
    subst hx
    go_enter Try.func8, Try.ntmps8
    go_wp2_with fail
    go_loopw [1, 5] (fun kv iv wr => kv = .int .i64 (k : Int) ∧ iv = .int .i64 0 ∧ wr = w) (fun _ _ _ => 0)
    case atStart => exact ⟨rfl, rfl, rfl⟩
    case round =>
      obtain ⟨rfl, rfl, rfl⟩ := hrel
      go_wp2_with fail
      go_ret
      exact ⟨rfl, h, World.grownBy.refl _ _⟩
  · have hlt0 : g < w.heap.size := (hform g rfl).2
    unfold maxLen at hcm
    clear htake hcs hg hform
    go_enter Try.func8, Try.ntmps8
    go_wp2_with fail
    go_loopw [1, 5] (fun kv iv wr => ∃ n : Nat, n ≤ xs.length ∧ iv = .int .i64 n ∧ kv = .int .i64 ((k + n : Nat) : Int) ∧ wr.ownsRow base 3 1 (.slice (some ⟨g, 0, none⟩) xs.length cap) xs.length ((marksI k n ++ xs.drop n).flatMap vI) ∧ w.grownBy wr (some g)) (fun _ iv _ => xs.length - (intOf iv).toNat)
    case atStart => exact ⟨0, Nat.zero_le _, rfl, rfl, h, World.grownBy.refl _ _⟩
    case round =>
      obtain ⟨n, hn, rfl, rfl, hO, hG⟩ := hrel
      by_cases hlt : n < xs.length
      · have hGs := hG.size
        have e : (marksI k n ++ xs.drop n).length = xs.length := by rw [List.length_append, marksI_len, List.length_drop]; omega
        have hfr := hO.frozenAt n
        have hl : ((marksI k n ++ xs.drop n).flatMap vI).length = xs.length := by rw [flatMap_len vI_len, e]; omega
        obtain ⟨u0, hcell⟩ : ∃ u0, wr.cell? ⟨g, n, none⟩ = some u0 := ⟨_, (hO.cellAt n (by omega)).trans (List.getElem?_eq_getElem (by omega))⟩
        have hst := hO.stored n (.int .i64 ((k + n : Nat) : Int))
        rw [marksI_set hlt] at hst
        have HS := Lib.hid hst; clear hst e hl hO
        have hG2 : w.grownBy (wr.setCell ⟨g, n, none⟩ (.int .i64 ((k + n : Nat) : Int))) (some g) := grown_trans hG HS.out.2
        obtain ⟨z, hz⟩ : ∃ z : Int, z = ((k + n : Nat) : Int) := ⟨_, rfl⟩
        rw [← hz] at HS hG2 ⊢
        have z1 : 0 ≤ z := by omega
        have z2 : z < 100000000 := by omega
        have HZ := Lib.hid hz; clear hz hG
        go_wp2_with fail
        go_roundw
        case rel => exact ⟨n + 1, by omega, by go_num, by rw [HZ.out]; congr 1 <;> omega, HS.out.1, hG2⟩
        case measure => simp [intOf]; omega
      · obtain rfl : n = xs.length := by omega
        rw [List.drop_length, List.append_nil] at hO
        go_wp2_with fail
        go_ret
        refine ⟨rfl, ?_, hG⟩
        unfold Own; rw [marksI_len]; exact hO
set_option maxHeartbeats 1600000 in
theorem heldI_any (n : Nat) (v : Value) (k : Nat) (w : World) (h : SliceOf w 1 vI v (marksI k n)) (h1 : 1 ≤ k) (h2 : k + n < 100000000) : Calls Try.prog 9 #[v, .int .i64 (k : Int)] w fun e w' => e = .returned (.int .i64 ((k + n : Nat) : Int)) ∧ w = w' := by
  obtain ⟨A, c, rfl, hle, hm⟩ := h.form
  rw [marksI_len] at hle h ⊢
  unfold maxLen at hm
  go_enter Try.func9, Try.ntmps9
  go_wp2_with fail
  go_loop [1, 5] (fun kv iv => ∃ j : Nat, j ≤ n ∧ iv = .int .i64 j ∧ kv = .int .i64 ((k + j : Nat) : Int)) (fun _ iv => n - (intOf iv).toNat)
  case atStart => exact ⟨0, Nat.zero_le _, rfl, rfl⟩
  case round =>
    obtain ⟨j, hj, rfl, rfl⟩ := hrel
    by_cases hlt : j < n
    · have hlm : j < (marksI k n).length := by rw [marksI_len]; exact hlt
      obtain ⟨b_, off_, x, rfl, hb_, hx, hcell⟩ := h.cells hlm
      have hxe : x = ((k + j : Nat) : Int) := by
        have := hx.out
        unfold marksI at this
        rw [List.getElem?_map, List.getElem?_range hlt] at this
        injection this with this; exact this.symm
      have y0 : w.cell? ⟨b_, off_ + j, none⟩ = some (.int .i64 ((k + j : Nat) : Int)) := by rw [← hxe]; simpa using hcell 0 _ rfl
      clear hxe hcell hx hlm
      have j0 : (0 : Int) ≤ (j : Int) := by omega
      have j1 : (j : Int) < (n : Int) := by omega
      obtain ⟨z, hz⟩ : ∃ z : Int, z = ((k + j : Nat) : Int) := ⟨_, rfl⟩
      rw [← hz] at y0 ⊢
      have z1 : 0 ≤ z := by omega
      have z2 : z < 100000000 := by omega
      have z3 : (z != z) = false := by simp
      have HZ := Lib.hid hz; clear hz
      go_wp2_with fail
      go_round
      case rel => exact ⟨j + 1, by omega, by go_num, by rw [HZ.out]; congr 1 <;> omega⟩
      case measure => simp [intOf]; omega
    · obtain rfl : j = n := by omega
      go_wp2_with fail
      go_ret
      exact ⟨rfl, rfl⟩
end Go.Proofs.Ythpgnlmkgllonaa
