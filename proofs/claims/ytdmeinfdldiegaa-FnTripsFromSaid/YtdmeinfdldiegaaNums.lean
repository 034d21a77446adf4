/- Numbers written in digits: how long the text is, and that it is read again. No condition. -/
import Derived.Test.YtdmeinfdldiegaaMod
import Derived.Lib.ItoaLen
import Derived.Lib.AtoiAll
import Derived.Lib.Repeat
namespace Go.Proofs.Ytdmeinfdldiegaa
open Go.Lib
set_option maxRecDepth 100000

/-- What digits spell, behind what was read before. -/
def vfrom (a : Nat) (l : List UInt8) : Nat := l.foldl (fun n c => n * 10 + (c.toNat - 48)) a
def val (l : List UInt8) : Nat := vfrom 0 l
theorem vfrom_append (a : Nat) (l r : List UInt8) : vfrom a (l ++ r) = vfrom (vfrom a l) r := by unfold vfrom; rw [List.foldl_append]
theorem vfrom_cons (a : Nat) (c : UInt8) (l : List UInt8) : vfrom a (c :: l) = vfrom (a * 10 + (c.toNat - 48)) l := by unfold vfrom; rw [List.foldl_cons]
theorem val_snoc (l : List UInt8) (c : UInt8) : val (l ++ [c]) = val l * 10 + (c.toNat - 48) := by unfold val; rw [vfrom_append]; rfl
theorem vfrom_ge : ∀ (l : List UInt8) (a : Nat), a ≤ vfrom a l
  | [], a => Nat.le_refl _
  | c :: l, a => by rw [vfrom_cons]; have := vfrom_ge l (a * 10 + (c.toNat - 48)); omega
theorem vfrom_lt : ∀ (l : List UInt8) (a : Nat), digs l = true → vfrom a l < (a + 1) * 10 ^ l.length
  | [], a, _ => by simp [vfrom]
  | c :: l, a, h => by
    unfold digs at h
    rw [List.all_cons, Bool.and_eq_true] at h
    have hc := (digC_iff c).1 h.1
    have := vfrom_lt l (a * 10 + (c.toNat - 48)) h.2
    rw [vfrom_cons, List.length_cons, Nat.pow_succ]
    refine Nat.lt_of_lt_of_le this ?_
    rw [Nat.mul_comm (10 ^ l.length) 10, ← Nat.mul_assoc]
    exact Nat.mul_le_mul_right _ (by omega)
theorem val_lt {l : List UInt8} (h : digs l = true) : val l < 10 ^ l.length := by have := vfrom_lt l 0 h; simpa [val] using this
theorem ofNat48 {k : Nat} (h : k < 10) : (UInt8.ofNat (48 + k)).toNat = 48 + k := by rw [UInt8.toNat_ofNat_of_lt' (by simp [UInt8.size]; omega)]
theorem digC_ofNat {k : Nat} (h : k < 10) : digC (UInt8.ofNat (48 + k)) = true := by rw [digC_iff, ofNat48 h]; omega
theorem dec_small {u : Nat} (h : u < 10) : decDigits u = [UInt8.ofNat (48 + u)] := by rw [decDigits, dif_pos h]
theorem dec_big {u : Nat} (h : ¬ u < 10) : decDigits u = decDigits (u / 10) ++ [UInt8.ofNat (48 + u % 10)] := by rw [decDigits, dif_neg h]
theorem dec_digs (u : Nat) : digs (decDigits u) = true := by
  induction u using Nat.strongRecOn with
  | _ u ih =>
    by_cases h : u < 10
    · rw [dec_small h]; unfold digs; rw [List.all_cons, digC_ofNat h]; rfl
    · rw [dec_big h, digs_snoc, ih (u / 10) (by omega), digC_ofNat (by omega)]; rfl
theorem val_dec (u : Nat) : val (decDigits u) = u := by
  induction u using Nat.strongRecOn with
  | _ u ih =>
    by_cases h : u < 10
    · rw [dec_small h]; show 0 * 10 + ((UInt8.ofNat (48 + u)).toNat - 48) = u; rw [ofNat48 h]; omega
    · rw [dec_big h, val_snoc, ih (u / 10) (by omega), ofNat48 (by omega)]; omega
theorem dec_inj {a b : Nat} (h : decDigits a = decDigits b) : a = b := by rw [← val_dec a, h, val_dec]
theorem dec_ne (u : Nat) : decDigits u ≠ [] := by
  by_cases h : u < 10
  · rw [dec_small h]; simp
  · rw [dec_big h]; simp
theorem dec_len : ∀ (k u : Nat), u < 10 ^ (k + 1) → (decDigits u).length ≤ k + 1
  | 0, u, h => by rw [dec_small (by simpa using h)]; simp
  | k + 1, u, h => by
    by_cases h1 : u < 10
    · rw [dec_small h1]; simp
    · rw [dec_big h1, List.length_append, List.length_singleton]
      have := dec_len k (u / 10) (by rw [Nat.pow_succ] at h; omega)
      omega
theorem dec_pos (u : Nat) : 1 ≤ (decDigits u).length := by have := dec_ne u; cases h : decDigits u; exact absurd h this; simp
/-- The numeral of a number that isn't below 0. -/
theorem itoa_nat {n : Int} (h : 0 ≤ n) : itoa n = decDigits n.toNat := by unfold itoa; rw [if_neg (by omega)]
theorem itoa_head_neg {n : Int} (h : n < 0) : itoa n = 45 :: decDigits n.natAbs := by unfold itoa; rw [if_pos h]
theorem digs_cons (c : UInt8) (l : List UInt8) : digs (c :: l) = (digC c && digs l) := by unfold digs; rfl
theorem digs_append (l r : List UInt8) : digs (l ++ r) = (digs l && digs r) := by unfold digs; simp
theorem itoa_inj {a b : Int} (h : itoa a = itoa b) : a = b := by
  rcases Int.lt_or_le a 0 with ha | ha <;> rcases Int.lt_or_le b 0 with hb | hb
  · rw [itoa_head_neg ha, itoa_head_neg hb] at h
    have := dec_inj (List.cons.inj h).2
    omega
  · rw [itoa_head_neg ha, itoa_nat hb] at h
    have := dec_digs b.toNat
    rw [← h, digs_cons] at this
    rw [show digC 45 = false from by decide] at this
    simp at this
  · rw [itoa_nat ha, itoa_head_neg hb] at h
    have := dec_digs a.toNat
    rw [h, digs_cons] at this
    rw [show digC 45 = false from by decide] at this
    simp at this
  · rw [itoa_nat ha, itoa_nat hb] at h
    have := dec_inj h
    omega
theorem itoa_ne (n : Int) : itoa n ≠ [] := by
  rcases Int.lt_or_le n 0 with h | h
  · rw [itoa_head_neg h]; simp
  · rw [itoa_nat h]; exact dec_ne _
/-- Zeros ahead. -/
theorem vfrom_zeros : ∀ (k : Nat) (l : List UInt8), vfrom 0 (List.replicate k 48 ++ l) = vfrom 0 l
  | 0, l => by simp
  | k + 1, l => by rw [List.replicate_succ, List.cons_append, vfrom_cons]; exact vfrom_zeros k l
theorem val_zeros (k : Nat) (l : List UInt8) : val (List.replicate k 48 ++ l) = val l := vfrom_zeros k l
theorem digs_zeros (k : Nat) : digs (List.replicate k 48) = true := by
  unfold digs; rw [List.all_eq_true]; intro c hc; rw [(List.mem_replicate.1 hc).2]; decide
/-- A number with so many digits. -/
def padL (n : Int) (k : Nat) : List UInt8 := List.replicate (k - (itoa n).length) 48 ++ itoa n
theorem pad_val {n : Int} (h : 0 ≤ n) (k : Nat) : val (padL n k) = n.toNat := by unfold padL; rw [val_zeros, itoa_nat h, val_dec]
theorem pad_digs {n : Int} (h : 0 ≤ n) (k : Nat) : digs (padL n k) = true := by unfold padL; rw [digs_append, digs_zeros, itoa_nat h, dec_digs]; rfl
theorem pad_len {n : Int} (h : 0 ≤ n) {k : Nat} (hk : n < 10 ^ (k + 1)) : (padL n (k + 1)).length = k + 1 := by
  unfold padL
  rw [List.length_append, List.length_replicate, itoa_nat h]
  have := dec_len k n.toNat (by have e : (10 : Int) ^ (k + 1) = ((10 ^ (k + 1) : Nat) : Int) := by simp
                                rw [e] at hk; omega)
  omega
theorem pad_inj {a b : Int} (ha : 0 ≤ a) (hb : 0 ≤ b) {k : Nat} (h : padL a k = padL b k) : a = b := by
  have := pad_val ha k
  rw [h, pad_val hb] at this
  omega
theorem pad_ne (n : Int) (k : Nat) : padL n k ≠ [] := by unfold padL; simp [itoa_ne]
/-- Digits are read by Atoi. -/
theorem parse_digs : ∀ (l : List UInt8) (a : Nat), digs l = true → vfrom a l < 1844674407370955162 → parseUint10 a l = .ok (vfrom a l)
  | [], a, _, _ => rfl
  | c :: l, a, h, hv => by
    rw [digs_cons, Bool.and_eq_true] at h
    have hc := (digC_iff c).1 h.1
    rw [vfrom_cons] at hv ⊢
    have hg := vfrom_ge l (a * 10 + (c.toNat - 48))
    unfold parseUint10
    rw [if_pos (by omega), if_neg (by omega), if_neg (by omega)]
    exact parse_digs l _ h.2 hv
theorem atoi_digs {l : List UInt8} (h0 : l ≠ []) (h : digs l = true) (hv : val l < 1844674407370955162) : atoiAll l = .ok (val l : Int) := by
  cases l with
  | nil => exact absurd rfl h0
  | cons c r =>
    have hc := (digC_iff c).1 (by rw [digs_cons, Bool.and_eq_true] at h; exact h.1)
    have hm : parseMag (c :: r) = .ok (val (c :: r)) := by unfold parseMag; rw [if_neg (by simp)]; exact parse_digs _ 0 h hv
    unfold atoiAll
    have h1 : ¬ c.toNat = 43 := by omega
    have h2 : ¬ c.toNat = 45 := by omega
    simp only [h1, h2, or_self, if_false, hm, not_false_eq_true, true_and, false_and]
    rw [if_neg (by omega)]
theorem atoi_itoa {n : Int} (h0 : 0 ≤ n) (h1 : n ≤ 1000000000) : atoiAll (itoa n) = .ok n := by
  rw [itoa_nat h0, atoi_digs (dec_ne _) (dec_digs _) (by rw [val_dec]; omega), val_dec]
  congr 1; omega
theorem atoi_pad {n : Int} (h0 : 0 ≤ n) (h1 : n ≤ 1000000000) (k : Nat) : atoiAll (padL n k) = .ok n := by
  rw [atoi_digs (pad_ne _ _) (pad_digs h0 _) (by rw [pad_val h0]; omega), pad_val h0]
  congr 1; omega
/-- The digits of a number that isn't 0, one off the end. -/
def dgs (u : Nat) : List UInt8 := if u = 0 then [] else decDigits u
theorem dgs_step {u : Nat} (h : u ≠ 0) : dgs u = dgs (u / 10) ++ [UInt8.ofNat (48 + u % 10)] := by
  unfold dgs
  rw [if_neg h]
  by_cases h1 : u < 10
  · rw [dec_small h1, if_pos (by omega), Nat.mod_eq_of_lt h1]; rfl
  · rw [dec_big h1, if_neg (by omega)]
/-- What a text says as a number from 0 to a milliard: the number and whether there is one. -/
def IsNum (s : List UInt8) (n : Int) (ok : Bool) : Prop := (ok = true ∧ 0 ≤ n ∧ n ≤ 1000000000 ∧ itoa n = s) ∨ (ok = false ∧ n = 0 ∧ ∀ m : Int, 0 ≤ m → m ≤ 1000000000 → itoa m ≠ s)
theorem IsNum.unique {s : List UInt8} {n m : Int} {a b : Bool} (h : IsNum s n a) (k : IsNum s m b) : n = m ∧ a = b := by
  rcases h with ⟨rfl, h1, h2, h3⟩ | ⟨rfl, rfl, h3⟩ <;> rcases k with ⟨rfl, k1, k2, k3⟩ | ⟨rfl, rfl, k3⟩
  · exact ⟨itoa_inj (h3.trans k3.symm), rfl⟩
  · exact absurd h3 (k3 _ h1 h2)
  · exact absurd k3 (h3 _ k1 k2)
  · exact ⟨rfl, rfl⟩
theorem IsNum.of_itoa {n : Int} (h0 : 0 ≤ n) (h1 : n ≤ 1000000000) {m : Int} {b : Bool} (h : IsNum (itoa n) m b) : m = n ∧ b = true := h.unique (.inl ⟨rfl, h0, h1, rfl⟩)
theorem IsNum.bd {s : List UInt8} {n : Int} {ok : Bool} (h : IsNum s n ok) : 0 ≤ n ∧ n ≤ 1000000000 := by
  rcases h with ⟨_, h1, h2, _⟩ | ⟨_, rfl, _⟩ <;> omega
end Go.Proofs.Ytdmeinfdldiegaa
