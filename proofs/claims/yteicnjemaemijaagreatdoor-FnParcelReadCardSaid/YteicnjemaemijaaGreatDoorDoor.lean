/- What the listed package-level variables hold when the call begins, and that it stays so; the start that meets the list. No condition. -/
import Derived.Test.YteicnjemaemijaaGreatDoorTie
import Derived.Test.YteicnjemaemijaaGreatDoorCards
import Derived.Test.YteicnjemaemijaaGreatDoorBase
import Derived.Deep.DeepHandedRow
import Derived.Deep.DeepWitnessRowRef
import Derived.LaidMore
import Derived.Lib.LaidTab
import Derived.Lib.ItoaLen
import Derived.Stop.LaidErr
namespace Go.Proofs.YteicnjemaemijaaGreatDoor
open Go.RowKit Go.PlainAid
set_option maxRecDepth 100000
theorem gPow : Tryz.prog.globalNamed "internal/strconv.uint64pow10" = some 5 := by kernel_rfl
theorem tPow : (Tryz.prog.globals[5]?).map (·.type) = some 151 := by kernel_rfl
theorem cPow : Tryz.prog.cellsOf 151 = 20 := by kernel_rfl
theorem cU64 : Tryz.prog.cellsOf 114 = 1 := by kernel_rfl
/-- The table of powers of ten is as its initialiser lays it. -/
def Tabs (w : World) : Prop := Lib.TabIs Tryz.prog w "internal/strconv.uint64pow10" .u64 Lib.pow10Tab ∧ 5 < w.heap.size
theorem var_keep {n : String} {g B : Nat} {w w' : World} (hg : Tryz.prog.globalNamed n = some g) (b : Below B w w') (h : g < B) : w'.var? Tryz.prog n = w.var? Tryz.prog n := by
  unfold World.var?
  rw [hg]
  simp only [Option.bind_some]
  rw [b.block g h]
theorem var_lt {n : String} {g : Nat} {w : World} {v : Array Value} (hg : Tryz.prog.globalNamed n = some g) (h : w.var? Tryz.prog n = some v) : g < w.heap.size := by
  unfold World.var? at h
  rw [hg] at h
  simp only [Option.bind_some] at h
  rcases Nat.lt_or_ge g w.heap.size with h' | h'
  · exact h'
  · rw [Array.getElem?_eq_none h'] at h; cases h
theorem Tabs.below {B : Nat} {w w' : World} (h : Tabs w) (b : Below B w w') (hB : 5 < B) : Tabs w' := by
  refine ⟨?_, Nat.lt_of_lt_of_le h.2 b.size⟩
  have := h.1
  unfold Lib.TabIs at this ⊢
  rw [var_keep gPow b hB]; exact this
theorem Tabs.keep {w w' : World} (h : Tabs w) (b : Below w.heap.size w w') : Tabs w' := h.below b h.2
theorem tabs_of {W : World} {r : List (String × DataW Unit)} (h : laidMet Tryz.prog (("internal/strconv.uint64pow10", Rows.laid_internal_strconv_uint64pow10) :: r) W) : Tabs W := by
  have t := Lib.tabIs_of_head gPow tPow Tryz.underlying151 Tryz.underlying114 cU64 cPow (zs := Lib.pow10Tab) h
  exact ⟨t, var_lt gPow t⟩
theorem gSyn : Tryz.prog.globalNamed "strconv.ErrSyntax" = some 1 := by kernel_rfl
theorem gRan : Tryz.prog.globalNamed "strconv.ErrRange" = some 2 := by kernel_rfl
/-- The two errors of strconv hold an error each. -/
def Errs (w : World) : Prop := Tabs w ∧ (∃ tp p, w.var? Tryz.prog "strconv.ErrSyntax" = some #[.iface tp p]) ∧ ∃ tp p, w.var? Tryz.prog "strconv.ErrRange" = some #[.iface tp p]
theorem Errs.below {B : Nat} {w w' : World} (h : Errs w) (b : Below B w w') (hB : 5 < B) (hB1 : 1 < B) (hB2 : 2 < B) : Errs w' := by
  refine ⟨h.1.below b hB, ?_, ?_⟩
  · rw [var_keep gSyn b hB1]; exact h.2.1
  · rw [var_keep gRan b hB2]; exact h.2.2
theorem Errs.lt {w : World} (h : Errs w) : 5 < w.heap.size ∧ 1 < w.heap.size ∧ 2 < w.heap.size := by
  obtain ⟨h1, ⟨_, _, h2⟩, _, _, h3⟩ := h
  exact ⟨h1.2, var_lt gSyn h2, var_lt gRan h3⟩
theorem Errs.keep {w w' : World} (h : Errs w) (b : Below w.heap.size w w') : Errs w' := h.below b h.lt.1 h.lt.2.1 h.lt.2.2
theorem tErr : (Tryz.prog.globals[1]?).map (·.type) = some 59 := by kernel_rfl
theorem tErr2 : (Tryz.prog.globals[2]?).map (·.type) = some 59 := by kernel_rfl
theorem cES : Tryz.prog.cellsOf 149 = 1 := by kernel_rfl
theorem cStr : Tryz.prog.cellsOf 9 = 1 := by kernel_rfl
theorem starEq : "*" ++ "errors.errorString" = "*errors.errorString" := by decide
theorem rowES (u : TypeId) (h : Tryz.prog.typeName? 3 u = some "*errors.errorString") : u = 147 :=
  typeName_ptr_named (nm := "errors.errorString") (by rw [starEq]; kernel_rfl) (by kernel_rfl) (by decide) u (by rw [starEq]; exact h)
end Go.Proofs.YteicnjemaemijaaGreatDoor
