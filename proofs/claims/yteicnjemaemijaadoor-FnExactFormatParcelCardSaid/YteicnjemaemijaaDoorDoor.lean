/- What the listed package-level variables hold when the call begins, and that it stays so; the start that meets the list. No condition. -/
import Derived.Test.YteicnjemaemijaaDoorTie
import Derived.Test.YteicnjemaemijaaDoorCards
import Derived.Test.YteicnjemaemijaaDoorBase
import Derived.Deep.DeepHandedRow
import Derived.Deep.DeepWitnessRowRef
import Derived.LaidMore
import Derived.Lib.LaidTab
import Derived.Lib.ItoaLen
import Derived.Stop.LaidErr
namespace Go.Proofs.YteicnjemaemijaaDoor
open Go.RowKit Go.PlainAid
set_option maxRecDepth 100000
theorem gPow : Tryd.prog.globalNamed "internal/strconv.uint64pow10" = some 0 := by kernel_rfl
theorem tPow : (Tryd.prog.globals[0]?).map (·.type) = some 106 := by kernel_rfl
theorem cPow : Tryd.prog.cellsOf 106 = 20 := by kernel_rfl
theorem cU64 : Tryd.prog.cellsOf 83 = 1 := by kernel_rfl
/-- The table of powers of ten is as its initialiser lays it. -/
def Tabs (w : World) : Prop := Lib.TabIs Tryd.prog w "internal/strconv.uint64pow10" .u64 Lib.pow10Tab ∧ 0 < w.heap.size
theorem var_keep {n : String} {g B : Nat} {w w' : World} (hg : Tryd.prog.globalNamed n = some g) (b : Below B w w') (h : g < B) : w'.var? Tryd.prog n = w.var? Tryd.prog n := by
  unfold World.var?
  rw [hg]
  simp only [Option.bind_some]
  rw [b.block g h]
theorem var_lt {n : String} {g : Nat} {w : World} {v : Array Value} (hg : Tryd.prog.globalNamed n = some g) (h : w.var? Tryd.prog n = some v) : g < w.heap.size := by
  unfold World.var? at h
  rw [hg] at h
  simp only [Option.bind_some] at h
  rcases Nat.lt_or_ge g w.heap.size with h' | h'
  · exact h'
  · rw [Array.getElem?_eq_none h'] at h; cases h
theorem Tabs.below {B : Nat} {w w' : World} (h : Tabs w) (b : Below B w w') (hB : 0 < B) : Tabs w' := by
  refine ⟨?_, Nat.lt_of_lt_of_le h.2 b.size⟩
  have := h.1
  unfold Lib.TabIs at this ⊢
  rw [var_keep gPow b hB]; exact this
theorem Tabs.keep {w w' : World} (h : Tabs w) (b : Below w.heap.size w w') : Tabs w' := h.below b h.2
theorem tabs_of {W : World} {r : List (String × DataW Unit)} (h : laidMet Tryd.prog (("internal/strconv.uint64pow10", Rows.laid_internal_strconv_uint64pow10) :: r) W) : Tabs W := by
  have t := Lib.tabIs_of_head gPow tPow Tryd.underlying106 Tryd.underlying83 cU64 cPow (zs := Lib.pow10Tab) h
  exact ⟨t, var_lt gPow t⟩
end Go.Proofs.YteicnjemaemijaaDoor
