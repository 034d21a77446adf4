/- Texts as lists of bytes, and a place's three letters. No condition. -/
import Derived.Test.YteicnjemaemijaaGreatDoorNums
import Derived.Test.YteicnjemaemijaaGreatDoorFmt
namespace Go.Proofs.YteicnjemaemijaaGreatDoor
open Go.RowKit Go.PlainAid
open Go.Lib (itoa decDigits decDigits_two)
set_option maxRecDepth 100000
set_option linter.unusedVariables false
def upC (c : UInt8) : Bool := 65 ≤ c.toNat && c.toNat ≤ 90
theorem upC_iff (c : UInt8) : upC c = true ↔ 65 ≤ c.toNat ∧ c.toNat ≤ 90 := by unfold upC; simp
theorem plc_list {s : ByteArray} (h : plc s = true) : ∃ x y z : UInt8, s.data.toList = [x, y, z] ∧ upC x = true ∧ upC y = true ∧ upC z = true := by
  obtain ⟨h3, hb⟩ := plc_iff.1 h
  obtain ⟨⟨l⟩⟩ := s
  have hl : l.length = 3 := h3
  match l, hl with
  | [x, y, z], _ =>
    refine ⟨x, y, z, rfl, ?_⟩
    have g : ∀ (j : Nat) (hj : j < 3), upC ([x, y, z][j]'hj) = true := by
      intro j hj
      have := hb j hj
      rw [← get_bt (⟨⟨[x, y, z]⟩⟩ : ByteArray) j (by exact hj)] at this
      rw [upC_iff]
      have e : ((⟨⟨[x, y, z]⟩⟩ : ByteArray)[j]'hj) = [x, y, z][j]'hj := rfl
      rw [e] at this
      omega
    exact ⟨g 0 (by omega), g 1 (by omega), g 2 (by omega)⟩
theorem data_inj {a b : ByteArray} (h : a.data.toList = b.data.toList) : a = b := by
  obtain ⟨⟨l⟩⟩ := a; obtain ⟨⟨m⟩⟩ := b
  simp at h; rw [h]
def str (l : List UInt8) : ByteArray := ⟨l.toArray⟩
theorem str_data (l : List UInt8) : (str l).data.toList = l := rfl
theorem str_size (l : List UInt8) : (str l).size = l.length := rfl
theorem str_of {r : ByteArray} {l : List UInt8} (h : r.data.toList = l) : r = str l := by
  obtain ⟨⟨x⟩⟩ := r
  simp at h; subst h; rfl
theorem str_app (x y : List UInt8) : str x ++ str y = str (x ++ y) := by unfold str; rw [ByteArray.mk_append_mk]
/-- The answer outright. -/
theorem SPost.eq {l : List UInt8} {w : World} {e : Ending} {w' : World} (h : SPost l w e w') : e = .returned (.string (str l)) ∧ Below w.heap.size w w' := by
  obtain ⟨r, rfl, h1, _, b⟩ := h
  exact ⟨by rw [str_of h1.out], b⟩
theorem toEq {P : Program} {f : FuncId} {args : Array Value} {l : List UInt8} {w : World} (h : Calls P f args w (SPost l w)) : Calls P f args w fun e w' => e = .returned (.string (str l)) ∧ Below w.heap.size w w' := h.mono fun _ _ h => h.eq
end Go.Proofs.YteicnjemaemijaaGreatDoor
