/- What SwapAt answers. No condition. -/
import Derived.Test.YtpodbdmeamgpgaaDoorPlace
import Derived.Test.YtpodbdmeamgpgaaDoorArgs
import Derived.Deep.QuietTactic
import Derived.BigQuiet
namespace Go.Proofs.YtpodbdmeamgpgaaDoor
open Go.RowKit Go.PlainAid
set_option maxRecDepth 100000

/-- The text with the bytes n and n + 1 exchanged. -/
def swp (s : ByteArray) (n : Nat) : ByteArray := s.extract 0 n ++ s.extract (n + 1) (n + 2) ++ s.extract n (n + 1) ++ s.extract (n + 2) s.size
theorem ext_le (s : ByteArray) (a b : Nat) : (s.extract a b).size ≤ s.size := by simp only [ByteArray.size_extract]; omega
def swapAt (s : ByteArray) (i : Int) : ByteArray := if 0 ≤ i ∧ i + 2 ≤ s.size then swp s i.toNat else s
set_option maxHeartbeats 800000 in
theorem swapI_in (s : ByteArray) (i : Int) (w : World) (hs : s.size ≤ 1048576) (h0 : 0 ≤ i) (h1 : i + 2 ≤ s.size) : Calls Tryd.prog 49 #[.string s, .int .i64 i] w fun e w' => e = .returned (.string (swp s i.toNat)) ∧ Below w.heap.size w w' := by
  obtain ⟨n, rfl⟩ := Int.eq_ofNat_of_zero_le h0
  rw [Int.toNat_natCast]
  have hn : n + 2 ≤ s.size := by omega
  have e1 : IntKind.i64.wrap ((n : Int) + 1) = (n : Int) + 1 := IntWalk.i64_in _ (by omega)
  have e2 : IntKind.i64.wrap ((n : Int) + 2) = (n : Int) + 2 := IntWalk.i64_in _ (by omega)
  have t1 : ((n : Int) + 1).toNat = n + 1 := by omega
  have t2 : ((n : Int) + 2).toNat = n + 2 := by omega
  have g0 : (0 : Int) ≤ (n : Int) + 1 := by omega
  have g1 : (0 : Int) ≤ (n : Int) + 2 := by omega
  have g2 : (n : Int) + 1 ≤ (s.size : Int) := by omega
  have g3 : (n : Int) ≤ (n : Int) + 1 := by omega
  have k1 := fun wx : World => run_string_add_sum (P := Tryd.prog) wx (s.extract 0 n) (s.extract (n + 1) (n + 2)) (by have := ext_le s 0 n; have := ext_le s (n + 1) (n + 2); omega)
  have k2 := fun wx : World => run_string_add_sum (P := Tryd.prog) wx (s.extract 0 n ++ s.extract (n + 1) (n + 2)) (s.extract n (n + 1)) (by have := ext_le s 0 n; have := ext_le s (n + 1) (n + 2); have := ext_le s n (n + 1); simp only [ByteArray.size_append]; omega)
  have k3 := fun wx : World => run_string_add_sum (P := Tryd.prog) wx (s.extract 0 n ++ s.extract (n + 1) (n + 2) ++ s.extract n (n + 1)) (s.extract (n + 2) s.size) (by have := ext_le s 0 n; have := ext_le s (n + 1) (n + 2); have := ext_le s n (n + 1); have := ext_le s (n + 2) s.size; simp only [ByteArray.size_append]; omega)
  go_enter Tryd.func49, Tryd.ntmps49
  go_wp2
  go_quiet (fail)
  go_wp2
  go_ret
  exact ⟨rfl, below_drewN (Below.refl _ _) _⟩
set_option maxHeartbeats 800000 in
theorem swapI_out (s : ByteArray) (i : Int) (w : World) (hs : s.size ≤ 1048576) (hi : okI i) (h : ¬ (0 ≤ i ∧ i + 2 ≤ s.size)) : Calls Tryd.prog 49 #[.string s, .int .i64 i] w fun e w' => e = .returned (.string s) ∧ Below w.heap.size w w' := by
  unfold okI at hi
  by_cases h0 : i < 0
  · go_enter Tryd.func49, Tryd.ntmps49
    go_wp2
    go_ret
    exact ⟨rfl, Below.refl _ _⟩
  · have h1 : (s.size : Int) ≤ i + 1 := by omega
    have h2 : (s.size : Int) - 1 ≤ i := by omega
    go_enter Tryd.func49, Tryd.ntmps49
    go_wp2
    go_ret
    exact ⟨rfl, Below.refl _ _⟩
theorem swapI (s : ByteArray) (i : Int) (w : World) (hs : s.size ≤ 1048576) (hi : okI i) : Calls Tryd.prog 49 #[.string s, .int .i64 i] w fun e w' => e = .returned (.string (swapAt s i)) ∧ Below w.heap.size w w' := by
  by_cases h : 0 ≤ i ∧ i + 2 ≤ s.size
  · have e : swapAt s i = swp s i.toNat := if_pos h
    rw [e]; exact swapI_in s i w hs h.1 h.2
  · have e : swapAt s i = s := if_neg h
    rw [e]; exact swapI_out s i w hs hi h
end Go.Proofs.YtpodbdmeamgpgaaDoor
