/- What the reference's small draws answer: a number below a bound, one of a list. No condition. -/
import Derived.Test.YtdmeinfdldiegaaCur
import Derived.Test.YtdmeinfdldiegaaRecs
namespace Go.Proofs.Ytdmeinfdldiegaa
open Go.RowKit Go.PlainAid
set_option maxRecDepth 100000
set_option linter.unusedVariables false
def Drew (C : Nat) (w w' : World) : Prop := Cur C w' ∧ Saves C w w'
set_option maxHeartbeats 1600000 in
theorem below_any (C : Nat) (n : Int) (w : World) (hc : Cur C w) (hn : okI n) : Calls Try.prog 45 #[.pointer (some ⟨C, 0, none⟩), .int .i64 n] w fun e w' => ∃ x : Int, e = .returned (.int .i64 x) ∧ 0 ≤ x ∧ x ≤ 16777215 ∧ (0 < n → x < n) ∧ Cur C w' ∧ Saves C w w' := by
  unfold okI at hn
  by_cases h0 : n ≤ 0
  · go_enter Try.func45, Try.ntmps45
    go_wp2_with fail
    go_ret
    exact ⟨_, rfl, by omega, by omega, by omega, hc, Saves.refl _ _⟩
  have hne : n ≠ 0 := by omega
  have hne' : ¬ n = 0 := hne
  have hp : 0 < n := by omega
  by_cases h1 : n ≤ 256
  · go_enter Try.func45, Try.ntmps45
    go_wp2_with fail
    refine (byte_any C _ hc).mono ?_
    rintro e w1 ⟨x, rfl, x0, x1, c1, s1⟩
    go_wp2_with fail
    go_ret
    exact ⟨_, rfl, Int.emod_nonneg _ hne, by have := Int.emod_lt_of_pos x hp; omega, fun _ => Int.emod_lt_of_pos x hp, c1, s1⟩
  · go_enter Try.func45, Try.ntmps45
    go_wp2_with fail
    refine (byte_any C _ hc).mono ?_
    rintro e w1 ⟨x, rfl, x0, x1, c1, s1⟩
    go_wp2_with fail
    refine (byte_any C _ c1).mono ?_
    rintro e w2 ⟨y, rfl, y0, y1, c2, s2⟩
    go_wp2_with fail
    refine (byte_any C _ c2).mono ?_
    rintro e w3 ⟨z, rfl, z0, z1, c3, s3⟩
    have S := (s1.trans s2).trans s3
    go_wp2_with fail
    go_ret
    have := Int.emod_lt_of_pos (x * 65536 + y * 256 + z) hp
    exact ⟨_, rfl, Int.emod_nonneg _ hne, by
      rcases Int.lt_or_le (x * 65536 + y * 256 + z) n with q | q
      · rw [Int.emod_eq_of_lt (by omega) q]; omega
      · omega, fun _ => this, c3, S⟩
theorem once_any (C : Nat) (n : Int) (w : World) (hc : Cur C w) (hn : okI n) : Calls Try.prog 41 #[.pointer (some ⟨C, 0, none⟩), .int .i64 n] w fun e w' => ∃ x : Bool, e = .returned (.bool x) ∧ Cur C w' ∧ Saves C w w' := by
  go_enter Try.func41, Try.ntmps41
  go_wp2_with fail
  refine (below_any C n _ hc hn).mono ?_
  rintro e w1 ⟨x, rfl, x0, x1, x2, c1, s1⟩
  go_wp2_with fail
  go_ret
  exact ⟨_, rfl, c1, s1⟩
theorem int_any (C : Nat) (xs : List Int) (v : Value) (w : World) (hc : Cur C w) (hx : ∀ x ∈ xs, okI x) (h0 : 0 < xs.length) (h : SliceOf w 1 vI v xs) (hb : ∀ b off n c, v = .slice (some ⟨b, off, none⟩) n c → b ≠ C) :
    Calls Try.prog 44 #[.pointer (some ⟨C, 0, none⟩), v] w fun e w' => ∃ x : Int, e = .returned (.int .i64 x) ∧ x ∈ xs ∧ Cur C w' ∧ Saves C w w' := by
  obtain ⟨A, c, rfl, hle, hm⟩ := h.form
  unfold maxLen at hm
  go_enter Try.func44, Try.ntmps44
  go_wp2_with fail
  refine (below_any C _ _ hc (by unfold okI; omega)).mono ?_
  rintro e w1 ⟨x, rfl, x0, x1, x2, c1, s1⟩
  obtain ⟨n, rfl⟩ := Int.eq_ofNat_of_zero_le x0
  have hlt : n < xs.length := by have := x2 (by omega); omega
  obtain ⟨b_, off_, x, rfl, hb_, hy, hcell⟩ := h.cells hlt
  have y0 : w1.cell? ⟨b_, off_ + n, none⟩ = some (.int .i64 x) := (s1.cell (p := ⟨b_, off_ + n, none⟩) hb_ (hb _ _ _ _ rfl)).trans (by simpa using hcell 0 _ rfl)
  have hn0 : (0 : Int) ≤ (n : Int) := by omega
  have hn1 : (n : Int) < (xs.length : Int) := by omega
  go_wp2_with fail
  go_ret
  exact ⟨_, rfl, mem_of hy.out, c1, s1⟩
def vS (s : ByteArray) : List Value := [.string s]
theorem str_any (C : Nat) (xs : List ByteArray) (v : Value) (w : World) (hc : Cur C w) (h0 : 0 < xs.length) (h : SliceOf w 1 vS v xs) (hb : ∀ b off n c, v = .slice (some ⟨b, off, none⟩) n c → b ≠ C) :
    Calls Try.prog 77 #[.pointer (some ⟨C, 0, none⟩), v] w fun e w' => ∃ x : ByteArray, e = .returned (.string x) ∧ x ∈ xs ∧ Cur C w' ∧ Saves C w w' := by
  obtain ⟨A, c, rfl, hle, hm⟩ := h.form
  unfold maxLen at hm
  go_enter Try.func77, Try.ntmps77
  go_wp2_with fail
  refine (below_any C _ _ hc (by unfold okI; omega)).mono ?_
  rintro e w1 ⟨x, rfl, x0, x1, x2, c1, s1⟩
  obtain ⟨n, rfl⟩ := Int.eq_ofNat_of_zero_le x0
  have hlt : n < xs.length := by have := x2 (by omega); omega
  obtain ⟨b_, off_, x, rfl, hb_, hy, hcell⟩ := h.cells hlt
  have y0 : w1.cell? ⟨b_, off_ + n, none⟩ = some (.string x) := (s1.cell (p := ⟨b_, off_ + n, none⟩) hb_ (hb _ _ _ _ rfl)).trans (by simpa using hcell 0 _ rfl)
  have hn0 : (0 : Int) ≤ (n : Int) := by omega
  have hn1 : (n : Int) < (xs.length : Int) := by omega
  go_wp2_with fail
  go_ret
  exact ⟨_, rfl, mem_of hy.out, c1, s1⟩
/-- A list that is written out in the text. -/
theorem lit_slice {α : Type} {f : α → Value} {vals : α → List Value} (hv : ∀ x, vals x = [f x]) (xs : List α) (T : TypeId) (w : World) (cs : Array Value) (hcs : cs.toList = xs.map f) (hl : xs.length ≤ maxLen) :
    SliceOf (w.alloc (.cells cs T)) 1 vals (.slice (some ⟨w.heap.size, 0, none⟩) xs.length xs.length) xs := by
  refine ⟨_, _, rfl, Nat.le_refl _, hl, fun _ => ⟨_, _, rfl, by simp, ?_⟩⟩
  intro k x j u hx hu
  rw [hv] at hu
  cases j with
  | succ j => simp at hu
  | zero =>
    simp only [List.getElem?_cons_zero, Option.some.injEq] at hu
    subst hu
    have e : cs[k]? = some (f x) := by rw [← Array.getElem?_toList, hcs, List.getElem?_map, hx]; rfl
    simp [go_sem, e]
theorem Cur.make {w : World} {A : Option Addr} {cap : Nat} {xs : List Int} (h : SliceOf w 1 vB (.slice A xs.length cap) xs) (y : Int) (T : TypeId) : Cur w.heap.size (w.alloc (.cells #[.slice A xs.length cap, .int .i64 0, .int .i64 y] T)) :=
  ⟨w, A, cap, xs, 0, y, h, Nat.le_refl _, (Below.refl _ _).alloc (Nat.le_refl _) _, by simp [go_sem], by simp [go_sem], by simp [go_sem], fun j => by simp [go_sem], by omega, by omega⟩
def placeNames : List ByteArray := [⟨#[65, 77, 83]⟩, ⟨#[66, 82, 85]⟩, ⟨#[67, 68, 71]⟩, ⟨#[68, 85, 66]⟩, ⟨#[69, 68, 73]⟩, ⟨#[70, 82, 65]⟩, ⟨#[71, 79, 84]⟩]
theorem place_any (C : Nat) (w : World) (hc : Cur C w) : Calls Try.prog 76 #[.pointer (some ⟨C, 0, none⟩)] w fun e w' => ∃ x : ByteArray, e = .returned (.string x) ∧ x ∈ placeNames ∧ Cur C w' ∧ Saves C w w' := by
  go_enter Try.func76, Try.ntmps76
  go_wp2_with fail
  have hlt := hc.lt
  have hS := lit_slice (f := Value.string) (vals := vS) (fun _ => rfl) placeNames 9 w #[.string ⟨#[65, 77, 83]⟩, .string ⟨#[66, 82, 85]⟩, .string ⟨#[67, 68, 71]⟩, .string ⟨#[68, 85, 66]⟩, .string ⟨#[69, 68, 73]⟩, .string ⟨#[70, 82, 65]⟩, .string ⟨#[71, 79, 84]⟩] rfl (by decide)
  have b0 : Below w.heap.size w (w.alloc (.cells #[.string ⟨#[65, 77, 83]⟩, .string ⟨#[66, 82, 85]⟩, .string ⟨#[67, 68, 71]⟩, .string ⟨#[68, 85, 66]⟩, .string ⟨#[69, 68, 73]⟩, .string ⟨#[70, 82, 65]⟩, .string ⟨#[71, 79, 84]⟩] 9)) := by go_grown
  refine (str_any C placeNames _ _ (hc.keep b0) (by decide) hS (fun b off n c hv => by injection hv with e1 e2 e3; injection e1 with e1; injection e1 with e1 e2; omega)).mono ?_
  rintro e w1 ⟨x, rfl, hx, c1, s1⟩
  go_wp2_with fail
  go_ret
  exact ⟨_, rfl, hx, c1, (Saves.of_below b0).trans s1⟩
set_option maxHeartbeats 1600000 in
theorem new_any (xs : List Int) (v : Value) (w : World) (h : SliceOf w 1 vB v xs) : Calls Try.prog 39 #[v] w fun e w' => ∃ C, w.heap.size ≤ C ∧ e = .returned (.pointer (some ⟨C, 0, none⟩)) ∧ Cur C w' ∧ Below w.heap.size w w' := by
  obtain ⟨A, c, rfl, hle, hm⟩ := h.form
  unfold maxLen at hm
  go_enter Try.func39, Try.ntmps39
  go_wp2_with fail
  go_loopw [3, 4] (fun g i wr => ∃ (k : Nat) (y : Int), k ≤ xs.length ∧ g = .int .i64 y ∧ i = .int .i64 k ∧ wr = w) (fun _ i _ => xs.length - (intOf i).toNat)
  case atStart => exact ⟨0, _, Nat.zero_le _, rfl, rfl, rfl⟩
  case round =>
    obtain ⟨k, y, hk, rfl, rfl, rfl⟩ := hrel
    by_cases hlt : k < xs.length
    · obtain ⟨b_, off_, x, rfl, hb_, hx, hcell⟩ := h.cells hlt
      have y0 : wr.cell? ⟨b_, off_ + k, none⟩ = some (.int .u8 x) := by simpa using hcell 0 _ rfl
      by_cases h4 : k < 4000
      · have h4' : (k : Int) < 4000 := by omega
        go_wp2_with fail
        go_roundw
        case rel => exact ⟨k + 1, _, by omega, by first | rfl | trivial, by go_num, by first | rfl | trivial⟩
        case measure => simp [intOf]; omega
      · have h4' : ¬ (k : Int) < 4000 := by omega
        go_wp2_with fail
        go_ret
        exact ⟨_, Nat.le_refl _, rfl, Cur.make h y _, by go_grown⟩
    · obtain rfl : k = xs.length := by omega
      go_wp2_with fail
      go_ret
      exact ⟨_, Nat.le_refl _, rfl, Cur.make h y _, by go_grown⟩
end Go.Proofs.Ytdmeinfdldiegaa
