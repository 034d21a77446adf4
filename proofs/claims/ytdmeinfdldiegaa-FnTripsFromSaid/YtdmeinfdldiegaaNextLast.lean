/- The next and the last trip of a leg: the program's and the reference's alike. No condition. -/
import Derived.Test.YtdmeinfdldiegaaTrips
namespace Go.Proofs.Ytdmeinfdldiegaa
open Go.RowKit Go.PlainAid
set_option maxRecDepth 100000
set_option linter.unusedVariables false
/-- The first of m numbers from d on with p; the last number below n with p; -1 if there is none. -/
def firstFrom (p : Int → Bool) (d : Nat) : Nat → Int
  | 0 => -1
  | m + 1 => bif p d then d else firstFrom p (d + 1) m
def lastBelow (p : Int → Bool) : Nat → Int
  | 0 => -1
  | n + 1 => bif p n then n else lastBelow p n
theorem first_hit {p : Int → Bool} {k : Nat} (hk : k < 61) (h : p k = true) : firstFrom p k (61 - k) = k := by
  obtain ⟨m, hm⟩ : ∃ m, 61 - k = m + 1 := ⟨60 - k, by omega⟩
  rw [hm, firstFrom, h]; rfl
theorem first_no {p : Int → Bool} {k : Nat} (hk : k < 61) (h : p k = false) : firstFrom p k (61 - k) = firstFrom p (k + 1) (61 - (k + 1)) := by
  obtain ⟨m, hm⟩ : ∃ m, 61 - k = m + 1 := ⟨60 - k, by omega⟩
  rw [hm, firstFrom, h, show 61 - (k + 1) = m by omega]; rfl
theorem first_from_ge (p : Int → Bool) (m d : Nat) : firstFrom p d m = -1 ∨ (d : Int) ≤ firstFrom p d m ∧ firstFrom p d m < d + m := by
  induction m generalizing d with
  | zero => exact .inl rfl
  | succ m ih =>
    rw [firstFrom]
    cases p d
    · rcases ih (d + 1) with h | h
      · exact .inl h
      · refine .inr ?_; simp only [cond_false]; omega
    · refine .inr ?_; simp only [cond_true]; omega
theorem last_lt (p : Int → Bool) (n : Nat) : -1 ≤ lastBelow p n ∧ lastBelow p n < n := by
  induction n with
  | zero => exact ⟨by simp [lastBelow], by simp [lastBelow]⟩
  | succ n ih => rw [lastBelow]; cases p n <;> simp <;> omega
theorem last_hit {p : Int → Bool} {k : Nat} (h : p k = true) : lastBelow p (k + 1) = k := by rw [lastBelow, h]; rfl
theorem last_no {p : Int → Bool} {k : Nat} (h : p k = false) : lastBelow p (k + 1) = lastBelow p k := by rw [lastBelow, h]; rfl
/-- A leg starts at a time or later on the day; ends at a time or earlier. -/
def pNext (legs : List LegD) (off : List Int) (leg q day : Int) : Bool := runsB legs off leg day && decide (q ≤ startT legs leg day)
def pLast (legs : List LegD) (off : List Int) (leg q day : Int) : Bool := runsB legs off leg day && decide (endT legs leg day ≤ q)
def nextD (legs : List LegD) (off : List Int) (leg q : Int) : Int := firstFrom (pNext legs off leg q) 0 61
def lastD (legs : List LegD) (off : List Int) (leg q : Int) : Int := lastBelow (pLast legs off leg q) 61
theorem p_no1 {r : Bool} {c : Bool} (h : r = false) : (r && c) = false := by rw [h]; rfl
theorem p_no2 {r : Bool} {c : Prop} [Decidable c] (h : ¬ c) : (r && decide c) = false := by rw [decide_eq_false h]; simp
theorem p_yes {r : Bool} {c : Prop} [Decidable c] (h1 : r = true) (h2 : c) : (r && decide c) = true := by rw [h1, decide_eq_true h2]; rfl

def nextF (legs : List LegD) (off : List Int) (ch leg q : Int) : Bool := netB legs off ch && decide (0 ≤ nextD legs off leg q)
def nextL (legs : List LegD) (off : List Int) (ch leg q : Int) : Int := bif nextF legs off ch leg q then leg else 0
def nextE (legs : List LegD) (off : List Int) (ch leg q : Int) : Int := bif nextF legs off ch leg q then nextD legs off leg q else 0
theorem nextV_no {legs : List LegD} {off : List Int} {ch leg q : Int} (h : nextF legs off ch leg q = false) : (.tuple #[.agg #[.int .i64 0, .int .i64 0], .bool false] : Value) = .tuple #[.agg #[.int .i64 (nextL legs off ch leg q), .int .i64 (nextE legs off ch leg q)], .bool (nextF legs off ch leg q)] := by
  unfold nextL nextE; rw [h]; rfl
theorem nextV_yes {legs : List LegD} {off : List Int} {ch leg q : Int} (h : nextF legs off ch leg q = true) : (.tuple #[.agg #[.int .i64 leg, .int .i64 (nextD legs off leg q)], .bool true] : Value) = .tuple #[.agg #[.int .i64 (nextL legs off ch leg q), .int .i64 (nextE legs off ch leg q)], .bool (nextF legs off ch leg q)] := by
  unfold nextL nextE; rw [h]; rfl
theorem nextF1 {legs : List LegD} {off : List Int} {ch leg q : Int} (h : netB legs off ch = false) : nextF legs off ch leg q = false := by unfold nextF; rw [h]; rfl
theorem nextF2 {legs : List LegD} {off : List Int} {ch leg q : Int} (h : nextD legs off leg q < 0) : nextF legs off ch leg q = false := by unfold nextF; rw [decide_eq_false (by omega)]; simp
theorem nextF3 {legs : List LegD} {off : List Int} {ch leg q : Int} (hn : netB legs off ch = true) (h : 0 ≤ nextD legs off leg q) : nextF legs off ch leg q = true := by unfold nextF; rw [hn, decide_eq_true h]; rfl
def lastF (legs : List LegD) (off : List Int) (ch leg q : Int) : Bool := netB legs off ch && decide (0 ≤ lastD legs off leg q)
def lastL (legs : List LegD) (off : List Int) (ch leg q : Int) : Int := bif lastF legs off ch leg q then leg else 0
def lastE (legs : List LegD) (off : List Int) (ch leg q : Int) : Int := bif lastF legs off ch leg q then lastD legs off leg q else 0
theorem lastV_no {legs : List LegD} {off : List Int} {ch leg q : Int} (h : lastF legs off ch leg q = false) : (.tuple #[.agg #[.int .i64 0, .int .i64 0], .bool false] : Value) = .tuple #[.agg #[.int .i64 (lastL legs off ch leg q), .int .i64 (lastE legs off ch leg q)], .bool (lastF legs off ch leg q)] := by
  unfold lastL lastE; rw [h]; rfl
theorem lastV_yes {legs : List LegD} {off : List Int} {ch leg q : Int} (h : lastF legs off ch leg q = true) : (.tuple #[.agg #[.int .i64 leg, .int .i64 (lastD legs off leg q)], .bool true] : Value) = .tuple #[.agg #[.int .i64 (lastL legs off ch leg q), .int .i64 (lastE legs off ch leg q)], .bool (lastF legs off ch leg q)] := by
  unfold lastL lastE; rw [h]; rfl
theorem lastF1 {legs : List LegD} {off : List Int} {ch leg q : Int} (h : netB legs off ch = false) : lastF legs off ch leg q = false := by unfold lastF; rw [h]; rfl
theorem lastF2 {legs : List LegD} {off : List Int} {ch leg q : Int} (h : lastD legs off leg q < 0) : lastF legs off ch leg q = false := by unfold lastF; rw [decide_eq_false (by omega)]; simp
theorem lastF3 {legs : List LegD} {off : List Int} {ch leg q : Int} (hn : netB legs off ch = true) (h : 0 ≤ lastD legs off leg q) : lastF legs off ch leg q = true := by unfold lastF; rw [hn, decide_eq_true h]; rfl
theorem nextD_range (legs : List LegD) (off : List Int) (leg q : Int) : nextD legs off leg q = -1 ∨ 0 ≤ nextD legs off leg q ∧ nextD legs off leg q ≤ 60 := by
  rcases first_from_ge (pNext legs off leg q) 61 0 with h | h
  · exact .inl h
  · refine .inr ?_; unfold nextD; omega
theorem lastD_range (legs : List LegD) (off : List Int) (leg q : Int) : -1 ≤ lastD legs off leg q ∧ lastD legs off leg q ≤ 60 := by
  have := last_lt (pLast legs off leg q) 61
  unfold lastD; omega
end Go.Proofs.Ytdmeinfdldiegaa
