/- How the laws mark and read back a parcel. No condition. -/
import Derived.Test.YteicnjemaemijaaGreatDoorMarks
import Derived.Test.YteicnjemaemijaaGreatDoorParcelCopy
namespace Go.Proofs.YteicnjemaemijaaGreatDoor
open Go.RowKit Go.PlainAid
set_option maxRecDepth 100000
set_option linter.unusedVariables false
set_option maxHeartbeats 1600000 in
theorem markPar_any (a b : Int) (t f : ByteArray) (wt : Int) (xs : List Int) (vl : Int) (V : Value) (base : Nat) (w : World) (h : Own w base 3 1 vI V xs) (hbase : base ≤ w.heap.size) (hn : xs.length ≤ 16777217) :
    Calls Tryz.prog 8 #[.agg #[.int .i64 a, .int .i64 b, .string t, .string f, .int .i64 wt, V, .int .i64 vl], .int .i64 1] w fun e w' => e = .returned (.int .i64 ((1 + xs.length : Nat) : Int)) ∧ Own w' base 3 1 vI V (marksI 1 xs.length) ∧ w.grownBy w' V.ownBlock := by
  obtain ⟨A, c, rfl, -, -⟩ := h.form
  go_enter Tryz.func8, Tryz.ntmps8
  go_wp2_with fail
  obtain ⟨W, hW⟩ : ∃ W, W = w.alloc (.cells #[.int .i64 a, .int .i64 b, .string t, .string f, .int .i64 wt, .slice A xs.length c, .int .i64 vl] 26) := ⟨_, rfl⟩
  rw [← hW]
  have bW : Below w.heap.size w W := by rw [hW]; go_grown
  have gW : w.grownBy W (Value.slice A xs.length c).ownBlock := by rw [hW]; exact World.grownBy_alloc w _ _
  clear hW
  have hM := markI_any xs _ 1 base W (h.keep bW (Nat.le_refl _)) (Nat.le_refl _) (by omega) (by have := bW.size; omega)
  refine hM.mono ?_
  rintro e w1 ⟨rfl, o1, g1⟩
  have G := Lib.hid (grown_trans gW g1)
  clear hM gW g1
  obtain ⟨z, hz⟩ : ∃ z : Int, z = ((1 + xs.length : Nat) : Int) := ⟨_, rfl⟩
  rw [← hz]
  have HZ := Lib.hid hz; clear hz
  go_wp2_with fail
  go_ret
  exact ⟨ret_int HZ.out, o1, G.out⟩
set_option maxHeartbeats 1600000 in
theorem heldPar_any (a b : Int) (t f : ByteArray) (wt : Int) (n : Nat) (vl : Int) (V : Value) (w : World) (h : SliceOf w 1 vI V (marksI 1 n)) (hn : n ≤ 16777217) :
    Calls Tryz.prog 9 #[.agg #[.int .i64 a, .int .i64 b, .string t, .string f, .int .i64 wt, V, .int .i64 vl], .int .i64 1] w fun e w' => e = .returned (.int .i64 ((1 + n : Nat) : Int)) ∧ Below w.heap.size w w' := by
  obtain ⟨A, c, rfl, -, -⟩ := h.form
  go_enter Tryz.func9, Tryz.ntmps9
  go_wp2_with fail
  obtain ⟨W, hW⟩ : ∃ W, W = w.alloc (.cells #[.int .i64 a, .int .i64 b, .string t, .string f, .int .i64 wt, .slice A (marksI 1 n).length c, .int .i64 vl] 26) := ⟨_, rfl⟩
  try rw [← hW]
  have bW : Below w.heap.size w W := by rw [hW]; go_grown
  have hM := heldI_any n _ 1 W (h.keep bW (Nat.le_refl _)) (Nat.le_refl _) (by omega)
  clear hW
  refine hM.mono ?_
  rintro e w1 ⟨rfl, rfl⟩
  clear hM
  obtain ⟨z, hz⟩ : ∃ z : Int, z = ((1 + n : Nat) : Int) := ⟨_, rfl⟩
  have z0 : ¬ z < 0 := by omega
  rw [← hz]
  have HZ := Lib.hid hz; clear hz
  go_wp2_with fail
  go_ret
  exact ⟨ret_int HZ.out, bW⟩
end Go.Proofs.YteicnjemaemijaaGreatDoor
