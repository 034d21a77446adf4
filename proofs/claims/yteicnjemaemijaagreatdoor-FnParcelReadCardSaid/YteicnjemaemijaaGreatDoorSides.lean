/- Three sides, the volume, and how the laws copy and compare a list of numbers. No condition. -/
import Derived.Test.YteicnjemaemijaaGreatDoorPlace
import Derived.Test.YteicnjemaemijaaGreatDoorArgs
import Derived.Deep.QuietTactic
import Derived.BigQuiet
namespace Go.Proofs.YteicnjemaemijaaGreatDoor
open Go.RowKit Go.PlainAid
set_option maxRecDepth 100000

/-- Element k of a list of numbers. -/
theorem SliceOf.at1 {w : World} {A : Option Addr} {n c : Nat} {xs : List Int} (h : SliceOf w 1 vI (.slice A n c) xs) {k : Nat} (hk : k < xs.length) :
    ∃ b off, A = some ⟨b, off, none⟩ ∧ b < w.heap.size ∧ w.cell? ⟨b, off + k, none⟩ = some (.int .i64 (xs[k])) := by
  obtain ⟨A', c', e, h1, h2, h3⟩ := h
  injection e with e1 e2 e3
  subst e1 e2 e3
  obtain ⟨b, off, hA, hlt, hc⟩ := h3 (by omega)
  refine ⟨b, off, hA, hlt, ?_⟩
  have := hc k xs[k] 0 (.int .i64 xs[k]) (List.getElem?_eq_getElem hk) rfl
  simpa using this
theorem SliceOf.len {α : Type} {w : World} {size : Nat} {vals : α → List Value} {A : Option Addr} {n c : Nat} {xs : List α} (h : SliceOf w size vals (.slice A n c) xs) : n = xs.length ∧ xs.length ≤ c ∧ c ≤ maxLen := by
  obtain ⟨A', c', e, h1, h2, h3⟩ := h
  injection e with e1 e2 e3
  subst e1 e2 e3
  exact ⟨rfl, h1, h2⟩
theorem SliceOf.form {α : Type} {w : World} {size : Nat} {vals : α → List Value} {v : Value} {xs : List α} (h : SliceOf w size vals v xs) : ∃ A c, v = .slice A xs.length c ∧ xs.length ≤ c ∧ c ≤ maxLen := by
  obtain ⟨A', c', e, h1, h2, h3⟩ := h
  exact ⟨A', c', e, h1, h2⟩

def three (xs : List Int) : Bool := decide (xs.length = 3 ∧ ∀ x ∈ xs, 1 ≤ x ∧ x ≤ 2000)
theorem three_true {xs : List Int} (h1 : xs.length = 3) (h2 : ∀ x ∈ xs, 1 ≤ x ∧ x ≤ 2000) : three xs = true := decide_eq_true ⟨h1, h2⟩
theorem three_false {xs : List Int} (h : ¬ (xs.length = 3 ∧ ∀ x ∈ xs, 1 ≤ x ∧ x ≤ 2000)) : three xs = false := decide_eq_false h
theorem three_iff {xs : List Int} : three xs = true ↔ xs.length = 3 ∧ ∀ x ∈ xs, 1 ≤ x ∧ x ≤ 2000 := decide_eq_true_iff
theorem three_of {xs : List Int} (h : three xs = true) : ∃ a b c, xs = [a, b, c] ∧ (1 ≤ a ∧ a ≤ 2000) ∧ (1 ≤ b ∧ b ≤ 2000) ∧ (1 ≤ c ∧ c ≤ 2000) := by
  obtain ⟨h1, h2⟩ := three_iff.1 h
  match xs, h1 with
  | [a, b, c], _ => exact ⟨a, b, c, rfl, h2 a (by simp), h2 b (by simp), h2 c (by simp)⟩

theorem all_take_succ {xs : List Int} {p : Int → Prop} {k : Nat} (hk : k < xs.length) (h : ∀ x ∈ xs.take k, p x) (hx : p xs[k]) : ∀ x ∈ xs.take (k + 1), p x := by
  intro x hm
  rw [List.take_succ_eq_append_getElem hk, List.mem_append] at hm
  rcases hm with hm | hm
  · exact h x hm
  · simp at hm; subst hm; exact hx

set_option maxHeartbeats 400000 in
theorem threeI (xs : List Int) (v : Value) (w : World) (h : SliceOf w 1 vI v xs) : Calls Tryz.prog 35 #[v] w fun e w' => e = .returned (.bool (three xs)) ∧ w = w' := by
  obtain ⟨A, c, rfl, hl, hm⟩ := h.form
  unfold maxLen at hm
  go_enter Tryz.func35, Tryz.ntmps35
  go_wp2
  go_loop [7] (fun i => ∃ k : Nat, k ≤ xs.length ∧ i = .int .i64 k ∧ Hid (∀ x ∈ xs.take k, 1 ≤ x ∧ x ≤ 2000)) (fun i => xs.length - (intOf i).toNat)
  case atStart => exact ⟨0, Nat.zero_le _, rfl, fun x hx => by simp at hx⟩
  case round =>
    obtain ⟨k, hk, rfl, H⟩ := hrel
    by_cases hlt : k < xs.length
    · obtain ⟨b, off, rfl, hb, hc⟩ := h.at1 hlt
      obtain ⟨x, hx⟩ : ∃ x, x = xs[k] := ⟨_, rfl⟩
      rw [← hx] at hc
      have HX := Lib.hid hx; clear hx
      by_cases hr : 1 ≤ x ∧ x ≤ 2000
      · have e1 : rng x 1 2000 = true := rng_true hr.1 hr.2
        go_wp2_with (go_at_call 34; refine (within_any _ _ _ _).mono ?_; rintro e w' ⟨rfl, rfl⟩)
        go_round
        case rel => exact ⟨k + 1, by omega, by go_num, all_take_succ hlt H.out (by rw [← HX.out]; exact hr)⟩
        case measure => simp [intOf]; omega
      · have e1 : rng x 1 2000 = false := rng_false (by omega)
        go_wp2_with (go_at_call 34; refine (within_any _ _ _ _).mono ?_; rintro e w' ⟨rfl, rfl⟩)
        go_ret
        exact ⟨ret_bool (three_false (fun h => hr (by rw [HX.out]; exact h.2 _ (List.getElem_mem _)))).symm, rfl⟩
    · obtain rfl : k = xs.length := by omega
      go_wp2
      go_ret
      refine ⟨ret_bool ?_, rfl⟩
      by_cases h3 : xs.length = 3
      · rw [three_true h3 (by have := H.out; rwa [List.take_length] at this)]; simp [h3]
      · rw [three_false (fun h => h3 h.1)]; simp; omega
set_option maxHeartbeats 400000 in
theorem threeS (xs : List Int) (v : Value) (w : World) (h : SliceOf w 1 vI v xs) : Calls Tryz.prog 40 #[v] w fun e w' => e = .returned (.bool (three xs)) ∧ w = w' := by
  obtain ⟨A, c, rfl, hl, hm⟩ := h.form
  unfold maxLen at hm
  go_enter Tryz.func40, Tryz.ntmps40
  go_wp2
  go_loop [3] (fun i => ∃ k : Nat, k ≤ xs.length ∧ i = .int .i64 k ∧ Hid (∀ x ∈ xs.take k, 1 ≤ x ∧ x ≤ 2000)) (fun i => xs.length - (intOf i).toNat)
  case atStart => exact ⟨0, Nat.zero_le _, rfl, fun x hx => by simp at hx⟩
  case round =>
    obtain ⟨k, hk, rfl, H⟩ := hrel
    by_cases hlt : k < xs.length
    · obtain ⟨b, off, rfl, hb, hc⟩ := h.at1 hlt
      obtain ⟨x, hx⟩ : ∃ x, x = xs[k] := ⟨_, rfl⟩
      rw [← hx] at hc
      have HX := Lib.hid hx; clear hx
      by_cases hr : 1 ≤ x ∧ x ≤ 2000
      · have e1 : rng x 1 2000 = true := rng_true hr.1 hr.2
        go_wp2_with (go_at_call 39; refine (l1In_any _ _ _ _).mono ?_; rintro e w' ⟨rfl, rfl⟩)
        go_round
        case rel => exact ⟨k + 1, by omega, by go_num, all_take_succ hlt H.out (by rw [← HX.out]; exact hr)⟩
        case measure => simp [intOf]; omega
      · have e1 : rng x 1 2000 = false := rng_false (by omega)
        go_wp2_with (go_at_call 39; refine (l1In_any _ _ _ _).mono ?_; rintro e w' ⟨rfl, rfl⟩)
        go_ret
        exact ⟨ret_bool (three_false (fun h => hr (by rw [HX.out]; exact h.2 _ (List.getElem_mem _)))).symm, rfl⟩
    · obtain rfl : k = xs.length := by omega
      go_wp2
      go_ret
      refine ⟨ret_bool ?_, rfl⟩
      by_cases h3 : xs.length = 3
      · rw [three_true h3 (by have := H.out; rwa [List.take_length] at this)]; simp [h3]
      · rw [three_false (fun h => h3 h.1)]; simp; omega
/-- The volume. -/
def vol (xs : List Int) : Int := if three xs then xs.getD 0 0 * xs.getD 1 0 * xs.getD 2 0 else 0
theorem mul_le2 {a b : Int} (ha : 1 ≤ a ∧ a ≤ 2000) (hb : 1 ≤ b ∧ b ≤ 2000) : 1 ≤ a * b ∧ a * b ≤ 4000000 :=
  ⟨by have := Int.mul_le_mul ha.1 hb.1 (by omega) (by omega); omega, by have := Int.mul_le_mul ha.2 hb.2 (by omega) (by omega); omega⟩
theorem mul_le3 {p c : Int} (hp : 1 ≤ p ∧ p ≤ 4000000) (hc : 1 ≤ c ∧ c ≤ 2000) : 1 ≤ p * c ∧ p * c ≤ 8000000000 :=
  ⟨by have := Int.mul_le_mul hp.1 hc.1 (by omega) (by omega); omega, by have := Int.mul_le_mul hp.2 hc.2 (by omega) (by omega); omega⟩
set_option maxHeartbeats 800000 in
theorem volumeI (xs : List Int) (v : Value) (w : World) (h : SliceOf w 1 vI v xs) : Calls Tryz.prog 42 #[v] w fun e w' => e = .returned (.int .i64 (vol xs)) ∧ Below w.heap.size w w' := by
  obtain ⟨A, c, rfl, hl, hm⟩ := h.form
  cases ht : three xs
  · have HV : Hid (vol xs = 0) := Lib.hid (by unfold vol; rw [ht]; rfl)
    go_enter Tryz.func42, Tryz.ntmps42
    go_wp2_with (go_at_call 35; refine (threeI _ _ _ h).mono ?_; rintro e w' ⟨rfl, rfl⟩)
    go_ret
    exact ⟨ret_int HV.out.symm, Below.refl _ _⟩
  · obtain ⟨x, y, z, rfl, hx, hy, hz⟩ := three_of ht
    have HV : Hid (vol [x, y, z] = x * y * z) := Lib.hid (by unfold vol; rw [ht]; rfl)
    obtain ⟨b, off, rfl, hb, c0⟩ := h.at1 (k := 0) (by simp)
    obtain ⟨b', off', e', -, c1⟩ := h.at1 (k := 1) (by simp)
    obtain ⟨b'', off'', e'', -, c2⟩ := h.at1 (k := 2) (by simp)
    injection e' with e'; injection e' with e1 e2; subst e1 e2
    injection e'' with e''; injection e'' with e1 e2; subst e1 e2
    simp only [Nat.add_zero, List.getElem_cons_zero, List.getElem_cons_succ] at c0 c1 c2
    have hp := mul_le2 hx hy
    have hq := mul_le3 hp hz
    have wp : IntKind.i64.wrap (x * y) = x * y := IntWalk.i64_in _ (by omega)
    have wq : IntKind.i64.wrap (x * y * z) = x * y * z := IntWalk.i64_in _ (by omega)
    clear hp hq hx hy hz
    have h3 := threeI _ _ w h
    simp only [List.length_cons, List.length_nil] at h3 ⊢
    have H3 := Lib.hid h3; clear h3
    go_enter Tryz.func42, Tryz.ntmps42
    go_wp2_with (go_at_call 35; refine H3.out.mono ?_; rintro e w' ⟨rfl, rfl⟩)
    go_quiet (fail)
    go_wp2
    go_ret
    exact ⟨ret_int HV.out.symm, below_drewN (Below.refl _ _) _⟩
end Go.Proofs.YteicnjemaemijaaGreatDoor
