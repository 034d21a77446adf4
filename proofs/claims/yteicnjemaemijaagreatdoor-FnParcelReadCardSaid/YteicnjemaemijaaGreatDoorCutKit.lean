/- The library's Cut and Split, asked for in any world that has the variable they read. No condition. -/
import Derived.Test.YteicnjemaemijaaGreatDoorDoor
import Derived.Test.YteicnjemaemijaaGreatDoorShelf
import Derived.Test.YteicnjemaemijaaGreatDoorSplitKit
import Derived.Test.YteicnjemaemijaaGreatDoorSplit
import Derived.Shelf.Vars
namespace Go.Proofs.YteicnjemaemijaaGreatDoor
open Go.RowKit Go.PlainAid
set_option maxRecDepth 100000
set_option linter.unusedVariables false
/-- The library's variable MaxLen holds a number. -/
def MaxL (w : World) : Prop := ∃ m : Int, w.cell? ⟨0, 0, none⟩ = some (.int .i64 m)
theorem MaxL.keep {w w' : World} (h : MaxL w) (b : Below w.heap.size w w') : MaxL w' := by
  obtain ⟨m, hm⟩ := h
  exact ⟨m, cell_keep b hm⟩
theorem maxL_of {W : World} (h : W.ShapedOpen Tryz.prog) : MaxL W := Go.Proofs.cell_of_shapedOpen_int (zero := #[.int .i64 0]) (t := 3) h (of_decide_eq_true (by kernel_rfl)) (by kernel_rfl) rfl (by kernel_rfl) (by kernel_rfl) Tryz.underlying3
theorem word_le {c : UInt8} : ∀ {ws : List (List UInt8)} {v : List UInt8}, v ∈ ws → v.length ≤ (joinC c ws).length
  | [], v, h => by simp at h
  | [w], v, h => by simp at h; subst h; exact Nat.le_refl _
  | w :: x :: r, v, h => by
    rw [joinC_cons c w (by simp), List.length_append]
    rcases List.mem_cons.1 h with rfl | h
    · omega
    · have := word_le (c := c) h
      simp only [List.length_cons]; omega
theorem splitIQ (s : ByteArray) (c : UInt8) (w : World) (hm : MaxL w) (hs : s.size ≤ 16777216) : Calls Tryz.prog 21 #[.string s, .string ⟨#[c]⟩] w (SplitQ c s.data.toList w) := by
  obtain ⟨m, hm⟩ := hm
  have hlen := Go.Lib.splitB_all ⟨#[c]⟩ (Nat.le_refl 1) 0 _ s rfl
  have hcnt := Go.Lib.countB_le ⟨#[c]⟩ (Nat.le_refl 1) s.size s (Nat.le_refl _)
  have hs2 := lib_split c s
  refine (Tryz.strings_Split s ⟨#[c]⟩ m w (by omega) hm (Nat.le_refl 1)).mono ?_
  rintro e w' ⟨rfl, rfl⟩
  obtain ⟨xs, hx⟩ : ∃ xs, xs = Go.Lib.splitB ⟨#[c]⟩ 0 (Go.Lib.countB s ⟨#[c]⟩) s := ⟨_, rfl⟩
  rw [← hx] at hlen hs2 ⊢
  have hS := lit_slice (f := Value.string) (vals := vS) (fun _ => rfl) xs 9 w (xs.map Value.string).toArray (by simp) (by unfold maxLen; omega)
  rw [hlen] at hS
  refine ⟨_, xs, rfl, hS, Lib.hid hs2, fun x hxm => ?_, fun b off n c h => ?_, (Below.refl _ _).alloc (Nat.le_refl _) _⟩
  · have := word_le (c := c) (List.mem_map_of_mem (f := fun y : ByteArray => y.data.toList) hxm)
    rw [hs2.2.1] at this
    simpa using this
  · injection h with e1; injection e1 with e1; injection e1 with e1; omega
theorem splitI (s : ByteArray) (c : UInt8) (w : World) (hm : MaxL w) (hs : s.size ≤ 16777216) : Calls Tryz.prog 21 #[.string s, .string ⟨#[c]⟩] w (SplitP c s.data.toList w) := (splitIQ s c w hm hs).mono fun _ _ h => h.toP
end Go.Proofs.YteicnjemaemijaaGreatDoor
