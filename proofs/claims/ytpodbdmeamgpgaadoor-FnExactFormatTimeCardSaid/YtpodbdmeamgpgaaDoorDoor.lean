/- What the listed package-level variables hold when the call begins, and that it stays so; the start that meets the list. No condition. -/
import Derived.Test.YtpodbdmeamgpgaaDoorTie
import Derived.Test.YtpodbdmeamgpgaaDoorCards
import Derived.Test.YtpodbdmeamgpgaaDoorBase
import Derived.Deep.DeepHandedRow
import Derived.Deep.DeepWitnessRowRef
import Derived.LaidMore
import Derived.Lib.LaidTab
import Derived.Lib.ItoaLen
import Derived.Stop.LaidErr
namespace Go.Proofs.YtpodbdmeamgpgaaDoor
open Go.RowKit Go.PlainAid
set_option maxRecDepth 100000
theorem gPow : Tryd.prog.globalNamed "internal/strconv.uint64pow10" = some 3 := by kernel_rfl
theorem tPow : (Tryd.prog.globals[3]?).map (·.type) = some 141 := by kernel_rfl
theorem cPow : Tryd.prog.cellsOf 141 = 20 := by kernel_rfl
theorem cU64 : Tryd.prog.cellsOf 119 = 1 := by kernel_rfl
/-- The table of powers of ten is as its initialiser lays it. -/
def Tabs (w : World) : Prop := Lib.TabIs Tryd.prog w "internal/strconv.uint64pow10" .u64 Lib.pow10Tab ∧ 3 < w.heap.size
theorem var_keep {n : String} {g B : Nat} {w w' : World} (hg : Tryd.prog.globalNamed n = some g) (b : Below B w w') (h : g < B) : w'.var? Tryd.prog n = w.var? Tryd.prog n := by
  unfold World.var?
  rw [hg]
  simp only [Option.bind_some]
  rw [b.block g h]
theorem var_lt {n : String} {g : Nat} {w : World} {v : Array Value} (hg : Tryd.prog.globalNamed n = some g) (h : w.var? Tryd.prog n = some v) : g < w.heap.size := by
  unfold World.var? at h
  rw [hg] at h
  simp only [Option.bind_some] at h
  rcases Nat.lt_or_ge g w.heap.size with h' | h'
  · exact h'
  · rw [Array.getElem?_eq_none h'] at h; cases h
theorem Tabs.below {B : Nat} {w w' : World} (h : Tabs w) (b : Below B w w') (hB : 3 < B) : Tabs w' := by
  refine ⟨?_, Nat.lt_of_lt_of_le h.2 b.size⟩
  have := h.1
  unfold Lib.TabIs at this ⊢
  rw [var_keep gPow b hB]; exact this
theorem Tabs.keep {w w' : World} (h : Tabs w) (b : Below w.heap.size w w') : Tabs w' := h.below b h.2
theorem tabs_of {W : World} {r : List (String × DataW Unit)} (h : laidMet Tryd.prog (("internal/strconv.uint64pow10", Rows.laid_internal_strconv_uint64pow10) :: r) W) : Tabs W := by
  have t := Lib.tabIs_of_head gPow tPow Tryd.underlying141 Tryd.underlying119 cU64 cPow (zs := Lib.pow10Tab) h
  exact ⟨t, var_lt gPow t⟩
theorem gSyn : Tryd.prog.globalNamed "strconv.ErrSyntax" = some 0 := by kernel_rfl
theorem gRan : Tryd.prog.globalNamed "strconv.ErrRange" = some 1 := by kernel_rfl
/-- The two errors of strconv hold an error each. -/
def Errs (w : World) : Prop := Tabs w ∧ (∃ tp p, w.var? Tryd.prog "strconv.ErrSyntax" = some #[.iface tp p]) ∧ ∃ tp p, w.var? Tryd.prog "strconv.ErrRange" = some #[.iface tp p]
theorem Errs.below {B : Nat} {w w' : World} (h : Errs w) (b : Below B w w') (hB : 3 < B) (hB1 : 0 < B) (hB2 : 1 < B) : Errs w' := by
  refine ⟨h.1.below b hB, ?_, ?_⟩
  · rw [var_keep gSyn b hB1]; exact h.2.1
  · rw [var_keep gRan b hB2]; exact h.2.2
theorem Errs.lt {w : World} (h : Errs w) : 3 < w.heap.size ∧ 0 < w.heap.size ∧ 1 < w.heap.size := by
  obtain ⟨h1, ⟨_, _, h2⟩, _, _, h3⟩ := h
  exact ⟨h1.2, var_lt gSyn h2, var_lt gRan h3⟩
theorem Errs.keep {w w' : World} (h : Errs w) (b : Below w.heap.size w w') : Errs w' := h.below b h.lt.1 h.lt.2.1 h.lt.2.2
theorem tErr : (Tryd.prog.globals[0]?).map (·.type) = some 71 := by kernel_rfl
theorem tErr2 : (Tryd.prog.globals[1]?).map (·.type) = some 71 := by kernel_rfl
theorem cES : Tryd.prog.cellsOf 148 = 1 := by kernel_rfl
theorem cStr : Tryd.prog.cellsOf 9 = 1 := by kernel_rfl
theorem starEq : "*" ++ "errors.errorString" = "*errors.errorString" := by decide
theorem rowES (u : TypeId) (h : Tryd.prog.typeName? 3 u = some "*errors.errorString") : u = 146 :=
  typeName_ptr_named (nm := "errors.errorString") (by rw [starEq]; kernel_rfl) (by kernel_rfl) (by decide) u (by rw [starEq]; exact h)
theorem of_laid5 {W : World} (h : laidMetH Tryd.prog Rows.fnExactParseIntRow.laid W) : Errs W := by
  rw [MakeChecks.laidMetH_plain _ _ _ (by kernel_rfl)] at h
  have h0 := tabs_of h.tail.tail
  have h1 := h.tail.tail.tail
  obtain ⟨a1, s1, v1, -, -, -⟩ := laid_sentinel h1 gRan tErr2 Tryd.underlying71 rowES Tryd.underlying146 Tryd.underlying148 rfl rfl Tryd.underlying9 cES cStr
  obtain ⟨a2, s2, v2, -, -, -⟩ := laid_sentinel h1.tail gSyn tErr Tryd.underlying71 rowES Tryd.underlying146 Tryd.underlying148 rfl rfl Tryd.underlying9 cES cStr
  exact ⟨h0, ⟨_, _, v2⟩, _, _, v1⟩
theorem of_laid7 {W : World} (h : laidMetH Tryd.prog Rows.fnExactParseLegRow.laid W) : Errs W := by
  rw [MakeChecks.laidMetH_plain _ _ _ (by kernel_rfl)] at h
  have h0 := tabs_of h.tail.tail
  have h1 := h.tail.tail.tail.tail
  obtain ⟨a1, s1, v1, -, -, -⟩ := laid_sentinel h1 gRan tErr2 Tryd.underlying71 rowES Tryd.underlying146 Tryd.underlying148 rfl rfl Tryd.underlying9 cES cStr
  obtain ⟨a2, s2, v2, -, -, -⟩ := laid_sentinel h1.tail gSyn tErr Tryd.underlying71 rowES Tryd.underlying146 Tryd.underlying148 rfl rfl Tryd.underlying9 cES cStr
  exact ⟨h0, ⟨_, _, v2⟩, _, _, v1⟩
theorem of_laid3 {W : World} (h : laidMetH Tryd.prog Rows.fnExactFormatIntRow.laid W) : Tabs W := by
  rw [MakeChecks.laidMetH_plain _ _ _ (by kernel_rfl)] at h
  exact tabs_of h.tail.tail
end Go.Proofs.YtpodbdmeamgpgaaDoor
