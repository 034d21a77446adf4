/- Plain definitions and small laws that the walks of this seat share: bytes of strings, hidden facts, and what stays under 'Below'. No condition. -/
import Derived.Test.YthpgnlmkgllonaaRows
import Derived.WalkKit
import Derived.WalkLawsBesides
import Derived.ProofKit
import Derived.OpenShut
import Derived.ShutString
import Derived.ChangeOld
import Derived.Below
import Derived.Handy
import Derived.PlainAid
import Derived.Lib.Hide
import Derived.Deep.DeepFit
import Derived.Deep.DeepMust
import Derived.Outline
import Derived.Deep.QuietTactic
import Derived.BigQuiet
namespace Go.Proofs.Ythpgnlmkgllonaa
open Go.RowKit Go.PlainAid

/-- All old cells and all old marks read as before. -/
theorem bcell {W w1 : World} (hb : Below W.heap.size W w1) : (∀ b o, b < W.heap.size → w1.cell? ⟨b, o, none⟩ = W.cell? ⟨b, o, none⟩) ∧ (∀ b o, b < W.heap.size → w1.frozen? ⟨b, o, none⟩ = W.frozen? ⟨b, o, none⟩) :=
  ⟨fun b o h => hb.cell (p := ⟨b, o, none⟩) h, fun b o h => hb.frozen (p := ⟨b, o, none⟩) h⟩
theorem below_drewN {B : Nat} {a w : World} (h : Below B a w) (n : Nat) : Below B a (w.drewN n) := ⟨h.os, h.tape, h.output, h.size, h.block⟩
theorem chain {W a b : World} (h : Below W.heap.size W a) (k : Below a.heap.size a b) : Below W.heap.size W b := h.trans (k.mono h.size)
theorem chain' {W a b : World} (k : Below a.heap.size a b) (h : Below W.heap.size W a) : Below W.heap.size W b := chain h k
theorem cell_lt {w : World} {p : Addr} {v : Value} (h : w.cell? p = some v) : p.block < w.heap.size := by
  rcases Nat.lt_or_ge p.block w.heap.size with hlt | hge
  · exact hlt
  · unfold World.cell? at h; rw [Array.getElem?_eq_none hge] at h; simp at h
theorem cell_keep {a b : World} {p : Addr} {v : Value} (k : Below a.heap.size a b) (h : a.cell? p = some v) : b.cell? p = some v := (k.cell (cell_lt h)).trans h
/-- What is left of a measure: -1, or what was there less n. -/
def SzPost (n left : Int) (w : World) (e : Ending) (w' : World) : Prop := ∃ r : Int, e = .returned (.int .i64 r) ∧ -1 ≤ r ∧ r ≤ left ∧ (0 ≤ r → r + n = left) ∧ Below w.heap.size w w'
/-- A call that answers v and leaves what was there as it was. -/
def Ans (v : Value) (w : World) (e : Ending) (w' : World) : Prop := e = .returned v ∧ Below w.heap.size w w'
theorem ret_int {k : IntKind} {a b : Int} (h : a = b) : Ending.returned (.int k a) = .returned (.int k b) := by rw [h]
theorem ret_bool {a b : Bool} (h : a = b) : Ending.returned (.bool a) = .returned (.bool b) := by rw [h]
theorem ret_string {a b : ByteArray} (h : a = b) : Ending.returned (.string a) = .returned (.string b) := by rw [h]

/-- A quiet call in a region that draws its order. -/
theorem quiet_left {P : Program} {f : FuncId} {args : Array Value} {w : World} {n : Nat} {v : Value}
    (h : Calls P f args (w.drewN n) fun e w' => e = .returned v ∧ w.drewN n = w') : Calls P f args (w.drewN n) fun e w'' => e = .returned v ∧ ∃ m, w'' = w.drewN m :=
  h.mono fun _ _ ⟨he, hm⟩ => ⟨he, n, hm.symm⟩
theorem quiet_add_left {P : Program} {f : FuncId} {args : Array Value} {w : World} {a n : Nat} {v : Value}
    (h : Calls P f args (w.drewN (a + n)) fun e w' => e = .returned v ∧ w.drewN (a + n) = w') :
    Calls P f args (w.drewN (a + n)) fun e w'' => e = .returned v ∧ ∃ m, w'' = w.drewN (a + m) :=
  h.mono fun _ _ ⟨he, hm⟩ => ⟨he, n, hm.symm⟩

/-- Three capital letters. -/
def plc (s : ByteArray) : Bool := decide (s.size = 3 ∧ ∀ j, j < s.size → 65 ≤ bt s j ∧ bt s j ≤ 90)
theorem plc_true {s : ByteArray} (h1 : s.size = 3) (h2 : ∀ j, j < s.size → 65 ≤ bt s j ∧ bt s j ≤ 90) : plc s = true := by unfold plc; exact decide_eq_true ⟨h1, h2⟩
theorem plc_false {s : ByteArray} (h : ¬ (s.size = 3 ∧ ∀ j, j < s.size → 65 ≤ bt s j ∧ bt s j ≤ 90)) : plc s = false := by unfold plc; exact decide_eq_false h
theorem plc_iff {s : ByteArray} : plc s = true ↔ (s.size = 3 ∧ ∀ j, j < s.size → 65 ≤ bt s j ∧ bt s j ≤ 90) := by unfold plc; exact decide_eq_true_iff
/-- In a range. -/
def rng (n a b : Int) : Bool := decide (a ≤ n ∧ n ≤ b)
theorem rng_true {n a b : Int} (h1 : a ≤ n) (h2 : n ≤ b) : rng n a b = true := decide_eq_true ⟨h1, h2⟩
theorem rng_false {n a b : Int} (h : n < a ∨ b < n) : rng n a b = false := decide_eq_false (by omega)
theorem rng_iff {n a b : Int} : rng n a b = true ↔ a ≤ n ∧ n ≤ b := decide_eq_true_iff
end Go.Proofs.Ythpgnlmkgllonaa
