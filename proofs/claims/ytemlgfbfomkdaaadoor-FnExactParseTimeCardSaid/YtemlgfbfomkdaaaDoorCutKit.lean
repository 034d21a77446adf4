/- The library's Cut and Split, asked for in any world that has the variable they read. No condition. -/
import Derived.Test.YtemlgfbfomkdaaaDoorDoor
import Derived.Test.YtemlgfbfomkdaaaDoorShelf
import Derived.Test.YtemlgfbfomkdaaaDoorSplitKit
import Derived.Test.YtemlgfbfomkdaaaDoorSplit
import Derived.Shelf.Vars
namespace Go.Proofs.YtemlgfbfomkdaaaDoor
open Go.RowKit Go.PlainAid
set_option maxRecDepth 100000
set_option linter.unusedVariables false
/-- The library's variable MaxLen holds a number. -/
def MaxL (w : World) : Prop := ∃ m : Int, w.cell? ⟨0, 0, none⟩ = some (.int .i64 m)
theorem MaxL.keep {w w' : World} (h : MaxL w) (b : Below w.heap.size w w') : MaxL w' := by
  obtain ⟨m, hm⟩ := h
  exact ⟨m, cell_keep b hm⟩
theorem maxL_of {W : World} (h : W.ShapedOpen Tryd.prog) : MaxL W := Go.Proofs.cell_of_shapedOpen_int (zero := #[.int .i64 0]) (t := 3) h (of_decide_eq_true (by kernel_rfl)) (by kernel_rfl) rfl (by kernel_rfl) (by kernel_rfl) Tryd.underlying3
theorem word_le {c : UInt8} : ∀ {ws : List (List UInt8)} {v : List UInt8}, v ∈ ws → v.length ≤ (joinC c ws).length
  | [], v, h => by simp at h
  | [w], v, h => by simp at h; subst h; exact Nat.le_refl _
  | w :: x :: r, v, h => by
    rw [joinC_cons c w (by simp), List.length_append]
    rcases List.mem_cons.1 h with rfl | h
    · omega
    · have := word_le (c := c) h
      simp only [List.length_cons]; omega
theorem cut_at (s : ByteArray) (c : UInt8) (w : World) (hm : MaxL w) (hs : s.size ≤ 16777216) : Calls Tryd.prog 20 #[.string s, .string ⟨#[c]⟩] w fun e w' => e = .returned (.tuple #[.string ⟨(Go.Lib.cut s.data.toList [c]).1.toArray⟩, .string ⟨(Go.Lib.cut s.data.toList [c]).2.1.toArray⟩, .bool (Go.Lib.cut s.data.toList [c]).2.2]) ∧ Below w.heap.size w w' := by
  obtain ⟨m, hm⟩ := hm
  refine (Tryd.strings_Cut s ⟨#[c]⟩ m w (by omega) hm).mono ?_
  rintro e w' ⟨rfl, n, rfl⟩
  exact ⟨rfl, below_drewN (Below.refl _ _) n⟩
theorem cut_any (s : ByteArray) (w : World) (hm : MaxL w) (hs : s.size ≤ 16777216) : Calls Tryd.prog 20 #[.string s, .string ⟨#[32]⟩] w fun e w' => e = .returned (.tuple #[.string ⟨(Go.Lib.cut s.data.toList [32]).1.toArray⟩, .string ⟨(Go.Lib.cut s.data.toList [32]).2.1.toArray⟩, .bool (Go.Lib.cut s.data.toList [32]).2.2]) ∧ Below w.heap.size w w' := cut_at s 32 w hm hs
theorem splitI (s : ByteArray) (c : UInt8) (w : World) (hm : MaxL w) (hs : s.size ≤ 16777216) : Calls Tryd.prog 31 #[.string s, .string ⟨#[c]⟩] w (SplitP c s.data.toList w) := by
  obtain ⟨m, hm⟩ := hm
  have hlen := Go.Lib.splitB_all ⟨#[c]⟩ (Nat.le_refl 1) 0 _ s rfl
  have hcnt := Go.Lib.countB_le ⟨#[c]⟩ (Nat.le_refl 1) s.size s (Nat.le_refl _)
  have hs2 := lib_split c s
  refine (Tryd.strings_Split s ⟨#[c]⟩ m w (by omega) hm (Nat.le_refl 1)).mono ?_
  rintro e w' ⟨rfl, rfl⟩
  obtain ⟨xs, hx⟩ : ∃ xs, xs = Go.Lib.splitB ⟨#[c]⟩ 0 (Go.Lib.countB s ⟨#[c]⟩) s := ⟨_, rfl⟩
  rw [← hx] at hlen hs2 ⊢
  have hS := lit_slice (f := Value.string) (vals := vS) (fun _ => rfl) xs 9 w (xs.map Value.string).toArray (by simp) (by unfold maxLen; omega)
  rw [hlen] at hS
  refine ⟨_, xs, rfl, hS, Lib.hid hs2, fun x hxm => ?_, (Below.refl _ _).alloc (Nat.le_refl _) _⟩
  have := word_le (c := c) (List.mem_map_of_mem (f := fun y : ByteArray => y.data.toList) hxm)
  rw [hs2.2.1] at this
  simpa using this
end Go.Proofs.YtemlgfbfomkdaaaDoor
