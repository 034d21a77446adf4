/- The plain laws of times as texts. No condition. -/
import Derived.Test.YtemlgfbfomkdaaaDoorTimes
import Derived.Test.YtemlgfbfomkdaaaDoorParse
import Derived.Test.YtemlgfbfomkdaaaDoorSplitKit
namespace Go.Proofs.YtemlgfbfomkdaaaDoor
open Go.RowKit Go.PlainAid
open Go.Lib (itoa decDigits decDigits_two)
theorem digs_no {l : List UInt8} {c : UInt8} (hd : digs l = true) (hc : digC c = false) : c ∉ l := fun h => by
  have := digs_of_mem hd h; rw [hc] at this; cases this
theorem itoa_no {n : Int} (h : 0 ≤ n) {c : UInt8} (hc : digC c = false) : c ∉ itoa n := digs_no (by rw [itoa_nat h]; exact dec_digs _) hc
theorem clock_no {m : Int} (h0 : 0 ≤ m) {c : UInt8} (hc : digC c = false) (h58 : c ≠ 58) : c ∉ clockL m := by
  unfold clockL
  intro h
  rcases List.mem_append.1 h with h | h
  · rcases List.mem_append.1 h with h | h
    · exact digs_no (pad_digs (by omega) 2) hc h
    · simp at h; exact h58 h
  · exact digs_no (pad_digs (by omega) 2) hc h
theorem clock_inj {m k : Int} (h0 : 0 ≤ m) (h1 : m ≤ 1439) (k0 : 0 ≤ k) (k1 : k ≤ 1439) (h : clockL m = clockL k) : m = k := by
  unfold clockL at h
  rw [List.append_assoc, List.append_assoc] at h
  obtain ⟨e1, e2⟩ := List.append_inj h (by rw [pad_len (by omega) (k := 1) (by omega), pad_len (by omega) (k := 1) (by omega)])
  have e3 := (List.append_inj e2 rfl).2
  have q1 := pad_inj (by omega) (by omega) e1
  have q2 := pad_inj (by omega) (by omega) e3
  omega
/-- The minute of a day that is written so; -1 for another text. -/
def IsClock (l : List UInt8) (m : Int) : Prop := (0 ≤ m ∧ m ≤ 1439 ∧ clockL m = l) ∨ (m = -1 ∧ ∀ k : Int, 0 ≤ k → k ≤ 1439 → clockL k ≠ l)
theorem IsClock.unique {l : List UInt8} {m k : Int} (h : IsClock l m) (g : IsClock l k) : m = k := by
  rcases h with ⟨h0, h1, h2⟩ | ⟨h0, h1⟩ <;> rcases g with ⟨g0, g1, g2⟩ | ⟨g0, g1⟩
  · exact clock_inj h0 h1 g0 g1 (h2.trans g2.symm)
  · exact absurd h2 (g1 m h0 h1)
  · exact absurd g2 (h1 k g0 g1)
  · rw [h0, g0]
theorem IsClock.bd {l : List UInt8} {m : Int} (h : IsClock l m) : -1 ≤ m ∧ m ≤ 1439 := by
  rcases h with ⟨h0, h1, -⟩ | ⟨h0, -⟩ <;> omega
/-- The time that is written so. -/
def IsTime (l : List UInt8) (t : Int) (ok : Bool) : Prop := (ok = true ∧ 0 ≤ t ∧ t ≤ 100000 ∧ timeL t = l) ∨ (ok = false ∧ t = 0 ∧ ∀ k : Int, 0 ≤ k → k ≤ 100000 → timeL k ≠ l)
theorem time_split {t : Int} (h : 0 ≤ t) : IsSplit 32 (timeL t) [itoa (t / 1440), clockL (t % 1440)] := by
  refine ⟨by simp, ?_, fun w hw => ?_⟩
  · unfold timeL joinC joinC; simp
  · simp at hw
    rcases hw with rfl | rfl
    · exact itoa_no (by omega) (by decide)
    · exact clock_no (by omega) (by decide) (by decide)
theorem time_inj {t k : Int} (h : 0 ≤ t) (g : 0 ≤ k) (e : timeL t = timeL k) : t = k := by
  have hs := time_split h
  rw [e] at hs
  have := split_unique hs (time_split g)
  injection this with e1 e2
  injection e2 with e2 _
  have q1 := itoa_inj e1
  have q2 := clock_inj (by omega) (by omega) (by omega) (by omega) e2
  omega
theorem IsTime.unique {l : List UInt8} {t k : Int} {a b : Bool} (h : IsTime l t a) (g : IsTime l k b) : t = k ∧ a = b := by
  rcases h with ⟨ha, h0, h1, h2⟩ | ⟨ha, h0, h1⟩ <;> rcases g with ⟨gb, g0, g1, g2⟩ | ⟨gb, g0, g1⟩
  · exact ⟨time_inj h0 g0 (h2.trans g2.symm), by rw [ha, gb]⟩
  · exact absurd h2 (g1 t h0 h1)
  · exact absurd g2 (h1 k g0 g1)
  · exact ⟨by rw [h0, g0], by rw [ha, gb]⟩
theorem time_ne (t : Int) : timeL t ≠ [] := by unfold timeL; simp
/-- The program's way: divided at the first space, and written again. -/
theorem time_yes {l : List UInt8} {t : Int} (h0 : l ≠ []) (h : timeOf t = l) : IsTime l t true := by
  unfold timeOf at h
  split at h
  · next k => exact .inl ⟨rfl, k.1, k.2, h⟩
  · exact absurd h.symm h0
theorem time_no {l : List UInt8} {d m : Int} {ok : Bool} (hd : IsNum (Go.Lib.cut l [32]).1 d ok) (hm : IsClock (Go.Lib.cut l [32]).2.1 m) (h : l = [] ∨ timeOf (d * 1440 + m) ≠ l) : IsTime l 0 false := by
  refine .inr ⟨rfl, rfl, fun k k0 k1 e => ?_⟩
  have el : l = itoa (k / 1440) ++ 32 :: clockL (k % 1440) := by rw [← e]; unfold timeL; simp
  obtain ⟨c1, c2⟩ := lib_cut (itoa_no (n := k / 1440) (by omega) (c := 32) (by decide)) el
  rw [c1] at hd
  rw [c2] at hm
  have q1 := (hd.of_itoa (by omega) (by omega)).1
  have q2 : m = k % 1440 := hm.unique (.inl ⟨by omega, by omega, rfl⟩)
  have q3 : d * 1440 + m = k := by omega
  rcases h with h | h
  · rw [h] at e; exact time_ne k e
  · rw [q3] at h
    exact h ((timeOf_yes (rng_true k0 k1)).trans e)
/-- The reference's way: divided at every space. -/
theorem time_len {l : List UInt8} {ws : List (List UInt8)} (hs : IsSplit 32 l ws) (h : ws.length ≠ 2) : IsTime l 0 false :=
  .inr ⟨rfl, rfl, fun k k0 k1 e => h (by rw [split_unique hs (e ▸ time_split k0)]; rfl)⟩
theorem time_two {l a b : List UInt8} {d m : Int} (hs : IsSplit 32 l [a, b]) (hd : IsNum a d true) (hm : IsClock b m) (h0 : 0 ≤ m) (h1 : d * 1440 + m ≤ 100000) : IsTime l (d * 1440 + m) true := by
  obtain ⟨d0, d1⟩ := hd.bd
  rcases hm with ⟨-, m1, m2⟩ | ⟨m1, -⟩
  · refine .inl ⟨rfl, by omega, h1, ?_⟩
    rcases hd with ⟨-, -, -, d2⟩ | ⟨d2, -⟩
    · have e1 : (d * 1440 + m) / 1440 = d := by omega
      have e2 : (d * 1440 + m) % 1440 = m := by omega
      unfold timeL
      rw [e1, e2, d2, m2, ← hs.2.1]
      unfold joinC joinC; simp
    · cases d2
  · omega
theorem time_two_no {l a b : List UInt8} {d m : Int} {ok : Bool} (hs : IsSplit 32 l [a, b]) (hd : IsNum a d ok) (hm : IsClock b m) (h : ok = false ∨ m < 0 ∨ 100000 < d ∨ 100000 < d * 1440 + m) : IsTime l 0 false := by
  refine .inr ⟨rfl, rfl, fun k k0 k1 e => ?_⟩
  have := split_unique hs (e ▸ time_split k0)
  injection this with e1 e2
  injection e2 with e2 _
  rw [e1] at hd
  rw [e2] at hm
  obtain ⟨q1, q0⟩ := hd.of_itoa (by omega) (by omega)
  have q2 : m = k % 1440 := hm.unique (.inl ⟨by omega, by omega, rfl⟩)
  rcases h with h | h | h | h
  · rw [q0] at h; cases h
  · omega
  · omega
  · omega
/-- What four digits and a colon are worth. -/
theorem clock_parts {k : Int} (h0 : 0 ≤ k) (h1 : k ≤ 1439) : ∃ c0 c1 c3 c4 : UInt8, clockL k = [c0, c1, 58, c3, c4] ∧ 10 * ((c0.toNat : Int) - 48) + ((c1.toNat : Int) - 48) = k / 60 ∧ 10 * ((c3.toNat : Int) - 48) + ((c4.toNat : Int) - 48) = k % 60 ∧
    (48 ≤ c0.toNat ∧ c0.toNat ≤ 57) ∧ (48 ≤ c1.toNat ∧ c1.toNat ≤ 57) ∧ (48 ≤ c3.toNat ∧ c3.toNat ≤ 57) ∧ (48 ≤ c4.toNat ∧ c4.toNat ≤ 57) := by
  have two : ∀ n : Int, 0 ≤ n → n < 100 → ∃ x y : UInt8, padL n 2 = [x, y] ∧ 10 * ((x.toNat : Int) - 48) + ((y.toNat : Int) - 48) = n ∧ (48 ≤ x.toNat ∧ x.toNat ≤ 57) ∧ (48 ≤ y.toNat ∧ y.toNat ≤ 57) := by
    intro n n0 n1
    have hl := pad_len n0 (k := 1) (by omega)
    have hv := pad_val n0 2
    have hg := pad_digs n0 2
    match e : padL n 2, hl with
    | [x, y], _ =>
      rw [e] at hv hg
      have dx := digs_of_mem hg (c := x) (by simp)
      have dy := digs_of_mem hg (c := y) (by simp)
      rw [digC_iff] at dx dy
      refine ⟨x, y, rfl, ?_, by omega, by omega⟩
      unfold val vfrom at hv
      simp at hv
      omega
  obtain ⟨x, y, e1, v1, b1, b2⟩ := two (k / 60) (by omega) (by omega)
  obtain ⟨z, u, e2, v2, b3, b4⟩ := two (k % 60) (by omega) (by omega)
  refine ⟨x, y, z, u, ?_, v1, v2, b1, b2, b3, b4⟩
  unfold clockL
  rw [e1, e2]; rfl
end Go.Proofs.YtemlgfbfomkdaaaDoor
