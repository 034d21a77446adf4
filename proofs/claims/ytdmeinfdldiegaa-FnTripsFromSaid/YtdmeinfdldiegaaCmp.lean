/- Comparing numbers, and the first number that is not 0. No condition. -/
import Derived.Test.YtdmeinfdldiegaaSides
import Derived.StillTailTactics
namespace Go.Proofs.Ytdmeinfdldiegaa
open Go.RowKit Go.PlainAid
set_option maxRecDepth 100000
set_option linter.unusedVariables false
def cmpI (a b : Int) : Int := if a < b then -1 else if b < a then 1 else 0
def firstOf : List Int → Int
  | [] => 0
  | x :: r => if x = 0 then firstOf r else x
theorem cmpI_lt {a b : Int} (h : a < b) : cmpI a b = -1 := if_pos h
theorem cmpI_gt {a b : Int} (h : b < a) : cmpI a b = 1 := by unfold cmpI; rw [if_neg (by omega), if_pos h]
theorem cmpI_eq (a : Int) : cmpI a a = 0 := by unfold cmpI; rw [if_neg (by omega), if_neg (by omega)]
theorem firstOf_hit : ∀ {xs : List Int} {k : Nat} {x : Int}, xs[k]? = some x → x ≠ 0 → (∀ y ∈ xs.take k, y = 0) → firstOf xs = x
  | [], k, x, h, _, _ => by simp at h
  | y :: r, 0, x, h, hx, _ => by simp at h; subst h; simp [firstOf, hx]
  | y :: r, k + 1, x, h, hx, hn => by
    have h0 : y = 0 := hn y (by simp)
    simp only [firstOf, h0, if_true]
    exact firstOf_hit (xs := r) (k := k) (by simpa using h) hx (fun z hz => hn z (by simp [hz]))
theorem firstOf_none : ∀ {xs : List Int}, (∀ y ∈ xs, y = 0) → firstOf xs = 0
  | [], _ => rfl
  | y :: r, hn => by
    have h0 : y = 0 := hn y (by simp)
    simp only [firstOf, h0, if_true]
    exact firstOf_none (fun z hz => hn z (by simp [hz]))
/-- A quiet call in a region whose tail writes. -/
theorem still_left {P : Program} {f : FuncId} {args : Array Value} {w : World} {v : Value} (h : Calls P f args w fun e w' => e = .returned v ∧ w = w') : Calls P f args w fun e w'' => e = .returned v ∧ w'' = w :=
  h.mono fun _ _ ⟨he, hm⟩ => ⟨he, hm.symm⟩
/-- Three numbers in a new block, as a list. -/
theorem slice3 (w : World) (e : TypeId) (a b c : Int) : SliceOf (w.alloc (.cells #[.int .i64 a, .int .i64 b, .int .i64 c] e)) 1 vI (.slice (some ⟨w.heap.size, 0, none⟩) 3 3) [a, b, c] := by
  refine ⟨_, 3, rfl, by simp, by unfold maxLen; omega, fun _ => ⟨w.heap.size, 0, rfl, by simp, fun k x j u hx hu => ?_⟩⟩
  have hj : j = 0 := by
    have := (List.getElem?_eq_some_iff.1 hu).1
    simp [vI] at this; exact this
  subst hj
  have hk : k < 3 := (List.getElem?_eq_some_iff.1 hx).1
  rcases (show k = 0 ∨ k = 1 ∨ k = 2 from by omega) with rfl | rfl | rfl <;> simp at hx <;> subst hx <;> simp [vI] at hu <;> subst hu <;> simp [go_sem]
theorem slice3d (w : World) (e : TypeId) (a b c : Int) : SliceOf (w.alloc (.cells #[.int .i64 a, .int .i64 b, .int .i64 c] e)).drew 1 vI (.slice (some ⟨w.heap.size, 0, none⟩) 3 3) [a, b, c] := slice3 w e a b c
theorem compareInts_any (a b : Int) (w : World) : Calls Try.prog 33 #[.int .i64 a, .int .i64 b] w fun e w' => e = .returned (.int .i64 (cmpI a b)) ∧ w = w' := by
  by_cases h1 : a < b
  · have H := Lib.hid (cmpI_lt h1)
    go_enter Try.func33, Try.ntmps33
    go_wp2
    go_ret
    exact ⟨ret_int H.out.symm, rfl⟩
  · by_cases h2 : b < a
    · have H := Lib.hid (cmpI_gt h2)
      go_enter Try.func33, Try.ntmps33
      go_wp2
      go_ret
      exact ⟨ret_int H.out.symm, rfl⟩
    · obtain rfl : a = b := by omega
      have H := Lib.hid (cmpI_eq a)
      clear h1 h2
      go_enter Try.func33, Try.ntmps33
      go_wp2
      go_ret
      exact ⟨ret_int H.out.symm, rfl⟩
set_option maxHeartbeats 400000 in
theorem first_any (xs : List Int) (v : Value) (w : World) (h : SliceOf w 1 vI v xs) : Calls Try.prog 32 #[v] w fun e w' => e = .returned (.int .i64 (firstOf xs)) ∧ w = w' := by
  obtain ⟨A, c, rfl, hl, hm⟩ := h.form
  unfold maxLen at hm
  go_enter Try.func32, Try.ntmps32
  go_wp2
  go_loop [7] (fun i => ∃ k : Nat, k ≤ xs.length ∧ i = .int .i64 k ∧ Hid (∀ x ∈ xs.take k, x = 0)) (fun i => xs.length - (intOf i).toNat)
  case atStart => exact ⟨0, Nat.zero_le _, rfl, fun x hx => by simp at hx⟩
  case round =>
    obtain ⟨k, hk, rfl, H⟩ := hrel
    by_cases hlt : k < xs.length
    · obtain ⟨b, off, rfl, hb, hc⟩ := h.at1 hlt
      obtain ⟨x, hx⟩ : ∃ x, x = xs[k] := ⟨_, rfl⟩
      rw [← hx] at hc
      have HX := Lib.hid hx; clear hx
      by_cases hr : x = 0
      · have e1 : (x != 0) = false := by simp [hr]
        have HR := Lib.hid hr; clear hr
        go_wp2
        go_round
        case rel => exact ⟨k + 1, by omega, by go_num, all_take_succ hlt H.out (by rw [← HX.out]; exact HR.out)⟩
        case measure => simp [intOf]; omega
      · have e1 : (x != 0) = true := by simp [hr]
        have HR := Lib.hid hr; clear hr
        go_wp2
        go_ret
        exact ⟨ret_int (firstOf_hit (by rw [List.getElem?_eq_getElem hlt, HX.out]) HR.out H.out).symm, rfl⟩
    · obtain rfl : k = xs.length := by omega
      go_wp2
      go_ret
      exact ⟨ret_int (firstOf_none (by have := H.out; rwa [List.take_length] at this)).symm, rfl⟩
end Go.Proofs.Ytdmeinfdldiegaa
