/- The remainder of a number written in digits by 97, as the program and the reference reckon it. No condition. -/
import Derived.Test.YtdmeinfdldiegaaPlace
import Derived.Test.YtdmeinfdldiegaaArgs
namespace Go.Proofs.Ytdmeinfdldiegaa
open Go.RowKit Go.PlainAid
set_option maxRecDepth 100000

def stp (n : Int) (c : UInt8) : Int := (10 * n + ((c.toNat : Int) - 48)) % 97
def m97 (l : List UInt8) : Int := l.foldl stp 0
def digC (c : UInt8) : Bool := 48 ≤ c.toNat && c.toNat ≤ 57
def digs (l : List UInt8) : Bool := l.all digC
/-- What Mod97 answers. -/
def mod97 (l : List UInt8) : Int := if digs l && !l.isEmpty then m97 l else -1
theorem stp_bd (n : Int) (c : UInt8) : 0 ≤ stp n c ∧ stp n c ≤ 96 := by unfold stp; omega
theorem m97_snoc (l : List UInt8) (c : UInt8) : m97 (l ++ [c]) = stp (m97 l) c := by unfold m97; rw [List.foldl_append]; rfl
theorem m97_bd (l : List UInt8) : 0 ≤ m97 l ∧ m97 l ≤ 96 := by
  rcases l.eq_nil_or_concat with rfl | ⟨l', c, rfl⟩
  · decide
  · rw [List.concat_eq_append, m97_snoc]; exact stp_bd _ _
theorem digs_snoc (l : List UInt8) (c : UInt8) : digs (l ++ [c]) = (digs l && digC c) := by unfold digs; simp
theorem digC_iff (c : UInt8) : digC c = true ↔ 48 ≤ (c.toNat : Int) ∧ (c.toNat : Int) ≤ 57 := by unfold digC; simp; omega
theorem take_snoc (s : ByteArray) (k : Nat) (h : k < s.size) : s.data.toList.take (k + 1) = s.data.toList.take k ++ [s[k]] := by
  rw [List.take_succ_eq_append_getElem (by simpa using h)]; rfl
theorem digs_not {l : List UInt8} {c : UInt8} (hm : c ∈ l) (hc : ¬ (48 ≤ (c.toNat : Int) ∧ (c.toNat : Int) ≤ 57)) : digs l = false := by
  unfold digs
  rw [List.all_eq_false]
  exact ⟨c, hm, fun h => hc ((digC_iff c).1 h)⟩
theorem mem_get (s : ByteArray) (k : Nat) (h : k < s.size) : s[k] ∈ s.data.toList := List.getElem_mem (l := s.data.toList) (by simpa using h)
theorem data_len (s : ByteArray) : s.data.toList.length = s.size := by simp
theorem emp_true {s : ByteArray} (h : s.size = 0) : s.data.toList.isEmpty = true := by rw [List.isEmpty_iff, ← List.length_eq_zero_iff, data_len]; exact h
theorem emp_false {s : ByteArray} (h : ¬ s.size = 0) : s.data.toList.isEmpty = false := by
  rw [Bool.eq_false_iff, Ne, List.isEmpty_iff, ← List.length_eq_zero_iff, data_len]; exact h

end Go.Proofs.Ytdmeinfdldiegaa
