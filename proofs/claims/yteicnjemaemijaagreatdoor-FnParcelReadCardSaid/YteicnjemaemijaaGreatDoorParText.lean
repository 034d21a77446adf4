/- A parcel as it is written. No condition. -/
import Derived.Test.YteicnjemaemijaaGreatDoorParcel
import Derived.Test.YteicnjemaemijaaGreatDoorLabs
import Derived.Test.YteicnjemaemijaaGreatDoorSplitLaw
namespace Go.Proofs.YteicnjemaemijaaGreatDoor
open Go.RowKit Go.PlainAid
open Go.Lib (itoa decDigits decDigits_two)
def parG (d : ParcelD) : Bool := parB d.label.service d.label.serial d.label.dest d.src d.weight d.sides d.value
def sidesL (xs : List Int) : List UInt8 := joinC 120 (xs.map itoa)
def parL (d : ParcelD) : List UInt8 := flabL d.label ++ 32 :: (d.src.data.toList ++ 32 :: (itoa d.weight ++ 32 :: (sidesL d.sides ++ 32 :: itoa d.value)))
def parOf (d : ParcelD) : List UInt8 := if parG d then parL d else []
theorem parOf_yes {d : ParcelD} (h : parG d = true) : parOf d = parL d := if_pos h
theorem parOf_no {d : ParcelD} (h : parG d = false) : parOf d = [] := if_neg (by rw [h]; simp)
theorem parG_iff {d : ParcelD} (h : parG d = true) : labOk d.label = true ∧ plc d.src = true ∧ (1 ≤ d.weight ∧ d.weight ≤ 30000) ∧ three d.sides = true ∧ (0 ≤ d.value ∧ d.value ≤ 500000) := by
  unfold parG parB at h
  simp only [Bool.and_eq_true, rng_iff] at h
  exact ⟨by unfold labOk; exact h.1.1.1.1.1.1, h.1.1.1.1.1.2, h.1.1.1.2, h.1.1.2, h.2⟩
end Go.Proofs.YteicnjemaemijaaGreatDoor
