/- What the laws read off a code: a byte of it, or 0. No condition. -/
import Derived.Test.YtpodbdmeamgpgaaDoorRecs
namespace Go.Proofs.YtpodbdmeamgpgaaDoor
open Go.RowKit Go.PlainAid
set_option maxRecDepth 100000
set_option linter.unusedVariables false
def atV (xs : List Int) (i : Nat) : Int := (xs[i]?).getD 0
theorem atV_bd {xs : List Int} (h : ∀ x ∈ xs, okB x) (i : Nat) : 0 ≤ atV xs i ∧ atV xs i ≤ 255 := by
  unfold atV
  cases hx : xs[i]? with
  | none => simp
  | some x => have := h x (mem_of hx); unfold okB at this; simpa using this
theorem at_any (xs : List Int) (v : Value) (i : Nat) (w : World) (hi : i ≤ 100) (hok : ∀ x ∈ xs, okB x) (h : SliceOf w 1 vB v xs) : Calls Tryd.prog 41 #[v, .int .i64 (i : Int)] w fun e w' => e = .returned (.int .i64 (atV xs i)) ∧ w = w' := by
  obtain ⟨A, c, rfl, hle, hm⟩ := h.form
  unfold maxLen at hm
  by_cases hlt : i < xs.length
  · obtain ⟨b_, off_, x, rfl, hb_, hx, hcell⟩ := h.cells hlt
    have y0 : w.cell? ⟨b_, off_ + i, none⟩ = some (.int .u8 x) := by simpa using hcell 0 _ rfl
    obtain ⟨o1, o2⟩ := hok x (mem_of hx.out)
    have HV : Hid (atV xs i = x) := Lib.hid (by unfold atV; rw [hx.out]; rfl)
    have e0 : (0 : Int) ≤ (i : Int) := by omega
    have e1 : (i : Int) < (xs.length : Int) := by omega
    go_enter Tryd.func41, Tryd.ntmps41
    go_wp2
    go_ret
    exact ⟨ret_int HV.out.symm, rfl⟩
  · have HV : Hid (atV xs i = 0) := Lib.hid (by unfold atV; rw [List.getElem?_eq_none (by omega)]; rfl)
    have e1 : ¬ (i : Int) < (xs.length : Int) := by omega
    go_enter Tryd.func41, Tryd.ntmps41
    go_wp2
    go_ret
    exact ⟨ret_int HV.out.symm, rfl⟩
end Go.Proofs.YtpodbdmeamgpgaaDoor
