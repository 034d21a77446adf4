/- What CompareLabels answers: the program's and the reference's alike. No condition. -/
import Derived.Test.YtogdmidldaeheaaCmp
import Derived.Test.YtogdmidldaeheaaShelf
import Derived.Test.YtogdmidldaeheaaArgs
namespace Go.Proofs.Ytogdmidldaeheaa
open Go.RowKit Go.PlainAid
set_option maxRecDepth 100000
set_option linter.unusedVariables false
def cmpS (a b : ByteArray) : Int := Lib.compareBytes a.data.toList b.data.toList
def cmpLab (a b : LabelD) : Int := firstOf [cmpI a.service b.service, cmpI a.serial b.serial, cmpS a.dest b.dest]
set_option maxHeartbeats 1600000 in
theorem cmpLabI (a1 a2 b1 b2 : Int) (s t : ByteArray) (w : World) :
    Calls Try.prog 44 #[.agg #[.int .i64 a1, .int .i64 a2, .string s], .agg #[.int .i64 b1, .int .i64 b2, .string t]] w fun e w' => e = .returned (.int .i64 (cmpLab ⟨a1, a2, s⟩ ⟨b1, b2, t⟩)) ∧ Below w.heap.size w w' := by
  go_enter Try.func44, Try.ntmps44
  go_wp2
  obtain ⟨W, hW⟩ : ∃ W, W = (w.alloc (.cells #[.int .i64 a1, .int .i64 a2, .string s] 31)).alloc (.cells #[.int .i64 b1, .int .i64 b2, .string t] 31) := ⟨_, rfl⟩
  rw [← hW]
  have d0 : W.cell? ⟨w.heap.size, 0, none⟩ = some (.int .i64 a1) := by rw [hW]; simp [go_sem]
  have d1 : W.cell? ⟨w.heap.size, 1, none⟩ = some (.int .i64 a2) := by rw [hW]; simp [go_sem]
  have d2 : W.cell? ⟨w.heap.size, 2, none⟩ = some (.string s) := by rw [hW]; simp [go_sem]
  have f0 : W.cell? ⟨w.heap.size + 1, 0, none⟩ = some (.int .i64 b1) := by rw [hW]; simp [go_sem]
  have f1 : W.cell? ⟨w.heap.size + 1, 1, none⟩ = some (.int .i64 b2) := by rw [hW]; simp [go_sem]
  have f2 : W.cell? ⟨w.heap.size + 1, 2, none⟩ = some (.string t) := by rw [hW]; simp [go_sem]
  have HB : Below w.heap.size w W := by rw [hW]; go_grown
  clear hW
  go_still_tail 15, (by kernel_rfl)
  still_call (still_left (compareInts_any _ _ _))
  repeat still_step
  still_call (still_left (compareInts_any _ _ _))
  repeat still_step
  still_call (Try.strings_Compare _ _ _)
  repeat still_step
  refine wpStill_nil ?_
  change wpList _ _ _ _ _ (World.drew _)
  go_wp2_with fail
  refine (first_any [cmpI a1 b1, cmpI a2 b2, Lib.compareBytes s.data.toList t.data.toList] _ _ (slice3d _ _ _ _ _)).mono ?_
  rintro e w1 ⟨rfl, rfl⟩
  go_wp2_with fail
  go_ret
  exact ⟨rfl, (HB.alloc HB.size _).drew⟩
theorem cb_of : ∀ (x y : List UInt8), Lib.compareBytes x y = if Op.bytesLess x y then -1 else if x == y then 0 else 1
  | [], [] => rfl
  | [], _ :: _ => rfl
  | _ :: _, [] => rfl
  | a :: x, b :: y => by
    have ih := cb_of x y
    simp only [Op.bytesLess, List.cons_beq_cons, Lib.compareBytes]
    rcases Nat.lt_trichotomy a.toNat b.toNat with h | h | h
    · have h1 : a < b := h
      simp [h1]
    · have e : a = b := UInt8.toNat_inj.1 h
      subst e
      have h2 : ¬ a < a := fun h2 => absurd (show a.toNat < a.toNat from h2) (by omega)
      simp [h2, ih]
    · have h1 : b < a := h
      have h2 : ¬ a < b := fun h2 => absurd (show a.toNat < b.toNat from h2) (by omega)
      have h3 : (a == b) = false := by rw [beq_eq_false_iff_ne]; intro e; subst e; omega
      simp [h1, h2, h3]
theorem cmpS_lt {a b : ByteArray} (h : Op.bytesLess a.toList b.toList = true) : cmpS a b = -1 := by unfold cmpS; rw [cb_of, ← Lib.toList_data, ← Lib.toList_data, if_pos h]
theorem cmpS_eq {a b : ByteArray} (h : Op.bytesLess a.toList b.toList = false) (h2 : (a.toList == b.toList) = true) : cmpS a b = 0 := by unfold cmpS; rw [cb_of, ← Lib.toList_data, ← Lib.toList_data, if_neg (by rw [h]; simp), if_pos h2]
theorem cmpS_gt {a b : ByteArray} (h : Op.bytesLess a.toList b.toList = false) (h2 : (a.toList == b.toList) = false) : cmpS a b = 1 := by unfold cmpS; rw [cb_of, ← Lib.toList_data, ← Lib.toList_data, if_neg (by rw [h]; simp), if_neg (by rw [h2]; simp)]
theorem cmpLab_1 {a1 a2 b1 b2 : Int} {s t : ByteArray} (h : a1 < b1) : cmpLab ⟨a1, a2, s⟩ ⟨b1, b2, t⟩ = -1 := by simp [cmpLab, cmpI_lt h, firstOf]
theorem cmpLab_2 {a1 a2 b1 b2 : Int} {s t : ByteArray} (h : b1 < a1) : cmpLab ⟨a1, a2, s⟩ ⟨b1, b2, t⟩ = 1 := by simp [cmpLab, cmpI_gt h, firstOf]
theorem cmpLab_3 {a1 a2 b2 : Int} {s t : ByteArray} (h : a2 < b2) : cmpLab ⟨a1, a2, s⟩ ⟨a1, b2, t⟩ = -1 := by simp [cmpLab, cmpI_eq, cmpI_lt h, firstOf]
theorem cmpLab_4 {a1 a2 b2 : Int} {s t : ByteArray} (h : b2 < a2) : cmpLab ⟨a1, a2, s⟩ ⟨a1, b2, t⟩ = 1 := by simp [cmpLab, cmpI_eq, cmpI_gt h, firstOf]
theorem cmpLab_5 {a1 a2 : Int} {s t : ByteArray} : cmpLab ⟨a1, a2, s⟩ ⟨a1, a2, t⟩ = cmpS s t := by simp only [cmpLab, cmpI_eq, firstOf, if_true]; split <;> simp_all
set_option maxHeartbeats 1600000 in
theorem cmpLabS (a1 a2 b1 b2 : Int) (s t : ByteArray) (w : World) :
    Calls Try.prog 43 #[.agg #[.int .i64 a1, .int .i64 a2, .string s], .agg #[.int .i64 b1, .int .i64 b2, .string t]] w fun e w' => e = .returned (.int .i64 (cmpLab ⟨a1, a2, s⟩ ⟨b1, b2, t⟩)) ∧ Below w.heap.size w w' := by
  rcases (show a1 < b1 ∨ b1 < a1 ∨ a1 = b1 from by omega) with h | h | rfl
  · have H := Lib.hid (cmpLab_1 (a2 := a2) (b2 := b2) (s := s) (t := t) h)
    have e1 : (a1 != b1) = true := by simp; omega
    have e2 : (a1 == b1) = false := by simp; omega
    go_enter Try.func43, Try.ntmps43
    go_wp2
    go_ret
    exact ⟨ret_int H.out.symm, by go_grown⟩
  · have H := Lib.hid (cmpLab_2 (a2 := a2) (b2 := b2) (s := s) (t := t) h)
    have e1 : (a1 != b1) = true := by simp; omega
    have e2 : (a1 == b1) = false := by simp; omega
    go_enter Try.func43, Try.ntmps43
    go_wp2
    go_ret
    exact ⟨ret_int H.out.symm, by go_grown⟩
  rcases (show a2 < b2 ∨ b2 < a2 ∨ a2 = b2 from by omega) with h | h | rfl
  · have H := Lib.hid (cmpLab_3 (a1 := a1) (s := s) (t := t) h)
    have e2 : (a2 == b2) = false := by simp; omega
    go_enter Try.func43, Try.ntmps43
    go_wp2
    go_ret
    exact ⟨ret_int H.out.symm, by go_grown⟩
  · have H := Lib.hid (cmpLab_4 (a1 := a1) (s := s) (t := t) h)
    have e2 : (a2 == b2) = false := by simp; omega
    go_enter Try.func43, Try.ntmps43
    go_wp2
    go_ret
    exact ⟨ret_int H.out.symm, by go_grown⟩
  cases hq : Op.bytesLess s.toList t.toList
  · cases hr : (s.toList == t.toList)
    · have H := Lib.hid ((cmpLab_5 (a1 := a1) (a2 := a2)).trans (cmpS_gt hq hr))
      go_enter Try.func43, Try.ntmps43
      go_wp2
      go_ret
      exact ⟨ret_int H.out.symm, by go_grown⟩
    · have H := Lib.hid ((cmpLab_5 (a1 := a1) (a2 := a2)).trans (cmpS_eq hq hr))
      go_enter Try.func43, Try.ntmps43
      go_wp2
      go_ret
      exact ⟨ret_int H.out.symm, by go_grown⟩
  · have H := Lib.hid ((cmpLab_5 (a1 := a1) (a2 := a2)).trans (cmpS_lt hq))
    go_enter Try.func43, Try.ntmps43
    go_wp2
    go_ret
    exact ⟨ret_int H.out.symm, by go_grown⟩
end Go.Proofs.Ytogdmidldaeheaa
