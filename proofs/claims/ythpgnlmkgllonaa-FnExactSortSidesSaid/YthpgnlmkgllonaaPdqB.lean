/- The library's sort: the choice of a pivot turns nothing. No condition. -/
import Derived.Test.YthpgnlmkgllonaaPdqA
namespace Go.Proofs.Ythpgnlmkgllonaa
open Go.RowKit Go.PlainAid
open SB
set_option maxRecDepth 100000
set_option linter.unusedVariables false
variable {α : Type}
/-- The counter of exchanges, and that nothing else has turned. -/
structure SwAt (w0 : World) (sb : Nat) (c : Int) (w : World) : Prop where
  cell : w.cell? ⟨sb, 0, none⟩ = some (.int .i64 c)
  fz : w.frozen? ⟨sb, 0, none⟩ = false
  bel : Below w0.heap.size w0 w
theorem SwAt.keep {w0 w w' : World} {sb : Nat} {c : Int} (h : SwAt w0 sb c w) (b : Below w.heap.size w w') : SwAt w0 sb c w' :=
  ⟨cell_keep b h.cell, (b.frozen (p := ⟨sb, 0, none⟩) (cell_lt h.cell)).trans h.fz, chain h.bel b⟩
theorem SwAt.set {w0 w : World} {sb : Nat} {c : Int} (h : SwAt w0 sb c w) (hs : w0.heap.size ≤ sb) (c' : Int) : SwAt w0 sb c' (w.setCell ⟨sb, 0, none⟩ (.int .i64 c')) :=
  ⟨World.cell?_setCell_same' _ _ _ (by rw [h.cell]; rfl), by rw [World.frozen?_setCell]; exact h.fz, h.bel.setCell hs _⟩
set_option maxHeartbeats 1600000 in
theorem order2_r {bs B : Nat} {rl rs : Value} {lt : α → α → Bool} {n row : Nat} {St : World → (Nat → α) → Prop} (E : REnv bs B rl rs lt n row St) (hn : n < 1099511627776) {w0 : World} {d : Nat → α} (h : St w0 d) (sb : Nat) (hs : w0.heap.size ≤ sb) (w : World) (c : Int) (hc0 : 0 ≤ c) (hc1 : c ≤ 1000) (hS : SwAt w0 sb c w) (a b : Nat) (x y : Int) (hx : x = (a : Int)) (hy : y = (b : Int)) (ha : a < n) (hb : b < n) :
    Calls Try.prog 30 #[.iface 36 (.pointer (some ⟨B, 0, none⟩)), .int .i64 x, .int .i64 y, .pointer (some ⟨sb, 0, none⟩)] w fun e w' => ∃ (i j : Nat) (c' : Int), e = .returned (.tuple #[.int .i64 (i : Int), .int .i64 (j : Int)]) ∧ (i = a ∧ j = b ∨ i = b ∧ j = a) ∧ (c ≤ c' ∧ c' ≤ c + 1) ∧ SwAt w0 sb c' w' := by
  have hR := Lib.hid E
  subst hx hy
  have hW := E.keep h hS.bel
  have ml := hR.out.mless hW
  have hl := hR.out.less (w := w) b a (b : Int) (a : Int) rfl rfl hW hb ha
  have HS := Lib.hid hS; clear hS
  go_enter Try.func30, Try.ntmps30
  cases hlv : lt (d b) (d a)
  · rw [hlv] at hl
    go_wp2_with fail
    refine hl.mono ?_
    rintro e' w1 ⟨rfl, b1⟩
    clear hl ml
    go_wp2_with fail
    go_ret2
    exact ⟨a, b, c, rfl, .inl ⟨rfl, rfl⟩, ⟨Int.le_refl _, by omega⟩, HS.out.keep b1⟩
  · rw [hlv] at hl
    go_wp2_with fail
    refine hl.mono ?_
    rintro e' w1 ⟨rfl, b1⟩
    clear hl ml
    have q1 := (HS.out.keep b1).cell
    have q2 := (HS.out.keep b1).fz
    have HS1 := Lib.hid ((HS.out.keep b1).set hs (c + 1))
    go_wp2_with fail
    go_ret2
    exact ⟨b, a, c + 1, rfl, .inr ⟨rfl, rfl⟩, ⟨by omega, Int.le_refl _⟩, HS1.out⟩
set_option maxHeartbeats 1600000 in
theorem median_r {bs B : Nat} {rl rs : Value} {lt : α → α → Bool} {n row : Nat} {St : World → (Nat → α) → Prop} (E : REnv bs B rl rs lt n row St) (hn : n < 1099511627776) {w0 : World} {d : Nat → α} (h : St w0 d) (sb : Nat) (hs : w0.heap.size ≤ sb) (w : World) (c : Int) (hc0 : 0 ≤ c) (hc1 : c ≤ 900) (hS : SwAt w0 sb c w) (a b m : Nat) (x y z : Int) (hx : x = (a : Int)) (hy : y = (b : Int)) (hz : z = (m : Int)) (ha : a < n) (hb : b < n) (hm : m < n) :
    Calls Try.prog 29 #[.iface 36 (.pointer (some ⟨B, 0, none⟩)), .int .i64 x, .int .i64 y, .int .i64 z, .pointer (some ⟨sb, 0, none⟩)] w fun e w' => ∃ (i : Nat) (c' : Int), e = .returned (.int .i64 (i : Int)) ∧ (i = a ∨ i = b ∨ i = m) ∧ (c ≤ c' ∧ c' ≤ c + 3) ∧ SwAt w0 sb c' w' := by
  subst hx hy hz
  have hR := Lib.hid E
  go_enter Try.func29, Try.ntmps29
  go_wp2_with fail
  refine (order2_r hR.out hn h sb hs w c hc0 (by omega) hS a b _ _ rfl rfl ha hb).mono ?_
  rintro e w1 ⟨i1, j1, c1, rfl, p1, g1, S1⟩
  go_wp2_with fail
  refine (order2_r hR.out hn h sb hs w1 c1 (by omega) (by omega) S1 j1 m _ _ rfl rfl (by omega) hm).mono ?_
  rintro e w2 ⟨i2, j2, c2, rfl, p2, g2, S2⟩
  go_wp2_with fail
  refine (order2_r hR.out hn h sb hs w2 c2 (by omega) (by omega) S2 i1 i2 _ _ rfl rfl (by omega) (by omega)).mono ?_
  rintro e w3 ⟨i3, j3, c3, rfl, p3, g3, S3⟩
  go_wp2_with fail
  go_ret
  exact ⟨j3, c3, rfl, by omega, ⟨by omega, by omega⟩, S3⟩
set_option maxHeartbeats 1600000 in
theorem adjacent_r {bs B : Nat} {rl rs : Value} {lt : α → α → Bool} {n row : Nat} {St : World → (Nat → α) → Prop} (E : REnv bs B rl rs lt n row St) (hn : n < 1099511627776) {w0 : World} {d : Nat → α} (h : St w0 d) (sb : Nat) (hs : w0.heap.size ≤ sb) (w : World) (c : Int) (hc0 : 0 ≤ c) (hc1 : c ≤ 900) (hS : SwAt w0 sb c w) (a : Nat) (x : Int) (hx : x = (a : Int)) (ha : 0 < a) (hb : a + 1 < n) :
    Calls Try.prog 28 #[.iface 36 (.pointer (some ⟨B, 0, none⟩)), .int .i64 x, .pointer (some ⟨sb, 0, none⟩)] w fun e w' => ∃ (i : Nat) (c' : Int), e = .returned (.int .i64 (i : Int)) ∧ (a ≤ i + 1 ∧ i ≤ a + 1) ∧ (c ≤ c' ∧ c' ≤ c + 3) ∧ SwAt w0 sb c' w' := by
  subst hx
  have hR := Lib.hid E
  go_enter Try.func28, Try.ntmps28
  go_wp2_with fail
  refine (median_r hR.out hn h sb hs w c hc0 hc1 hS (a - 1) a (a + 1) _ _ _ (by omega) rfl (by omega) (by omega) (by omega) hb).mono ?_
  rintro e w1 ⟨i1, c1, rfl, p1, g1, S1⟩
  go_wp2_with fail
  go_ret
  exact ⟨i1, c1, rfl, by omega, g1, S1⟩
set_option maxHeartbeats 3200000 in
theorem choose_r {bs B : Nat} {rl rs : Value} {lt : α → α → Bool} {n row : Nat} {St : World → (Nat → α) → Prop} (E : REnv bs B rl rs lt n row St) (hn : n < 1099511627776) (a b : Nat) (x y : Int) (hx : x = (a : Int)) (hy : y = (b : Int)) (w : World) (d : Nat → α) (h : St w d) (h1 : a + 12 < b) (h2 : b ≤ n) :
    Calls Try.prog 20 #[.iface 36 (.pointer (some ⟨B, 0, none⟩)), .int .i64 x, .int .i64 y] w fun e w' => ∃ (p : Nat) (t : Int), e = .returned (.tuple #[.int .i64 (p : Int), .int .i64 t]) ∧ a ≤ p ∧ p < b ∧ (t = 0 ∨ t = 1 ∨ t = 2) ∧ Below w.heap.size w w' := by
  subst hx hy
  have hR := Lib.hid E
  obtain ⟨l, hl⟩ : ∃ l : Nat, l = b - a := ⟨_, rfl⟩
  obtain ⟨q, hq⟩ : ∃ q : Nat, q = l / 4 := ⟨_, rfl⟩
  have hl1 : (b : Int) - (a : Int) = (l : Int) := by omega
  have hq1 : (l : Int).tdiv 4 = (q : Int) := by rw [Int.tdiv_eq_ediv_of_nonneg (by omega)]; omega
  have hq2 : (l : Int) / 4 = (q : Int) := by omega
  have l8 : (8 : Int) ≤ (l : Int) := by omega
  have q1 : 3 ≤ q := by omega
  have q2 : 4 * q ≤ l := by omega
  have l9 : a + l = b := by omega
  have HL9 := Lib.hid l9
  have bn : a + l ≤ n := by omega
  have HQ := Lib.hid hq
  clear hl hq l9 h1
  have hS0 : SwAt w w.heap.size 0 (w.alloc (.cells #[.int .i64 0] 3)) := ⟨by simp [go_sem], by simp [go_sem], (Below.refl _ _).alloc (Nat.le_refl _) _⟩
  have HS0 := Lib.hid hS0; clear hS0
  go_enter Try.func20, Try.ntmps20
  by_cases hl50 : (50 : Int) ≤ (l : Int)
  · go_wp2_with fail
    refine (adjacent_r hR.out hn h w.heap.size (Nat.le_refl _) _ 0 (by omega) (by omega) HS0.out (a + q * 1) _ (by omega) (by omega) (by omega)).mono ?_
    rintro e w1 ⟨i1, c1, rfl, p1, g1, S1⟩
    go_wp2_with fail
    refine (adjacent_r hR.out hn h w.heap.size (Nat.le_refl _) _ c1 (by omega) (by omega) S1 (a + q * 2) _ (by omega) (by omega) (by omega)).mono ?_
    rintro e w2 ⟨i2, c2, rfl, p2, g2, S2⟩
    go_wp2_with fail
    refine (adjacent_r hR.out hn h w.heap.size (Nat.le_refl _) _ c2 (by omega) (by omega) S2 (a + q * 3) _ (by omega) (by omega) (by omega)).mono ?_
    rintro e w3 ⟨i3, c3, rfl, p3, g3, S3⟩
    go_wp2_with fail
    refine (median_r hR.out hn h w.heap.size (Nat.le_refl _) _ c3 (by omega) (by omega) S3 i1 i2 i3 _ _ _ rfl rfl rfl (by omega) (by omega) (by omega)).mono ?_
    rintro e w4 ⟨i4, c4, rfl, p4, g4, S4⟩
    have cc := S4.cell
    have BB := S4.bel
    clear S4
    by_cases e0 : c4 = 0
    · subst e0
      go_wp2_with fail
      go_ret2
      exact ⟨i4, 1, rfl, by have := HL9.out; omega, by have := HL9.out; omega, .inr (.inl rfl), BB⟩
    · by_cases e12 : c4 = 12
      · subst e12
        go_wp2_with fail
        go_ret2
        exact ⟨i4, 2, rfl, by have := HL9.out; omega, by have := HL9.out; omega, .inr (.inr rfl), BB⟩
      · have f0 : (c4 == 0) = false := by simp [e0]
        have f12 : (c4 == 12) = false := by simp [e12]
        go_wp2_with fail
        go_ret2
        exact ⟨i4, 0, rfl, by have := HL9.out; omega, by have := HL9.out; omega, .inl rfl, BB⟩
  · go_wp2_with fail
    refine (median_r hR.out hn h w.heap.size (Nat.le_refl _) _ 0 (by omega) (by omega) HS0.out (a + q * 1) (a + q * 2) (a + q * 3) _ _ _ (by omega) (by omega) (by omega) (by omega) (by omega) (by omega)).mono ?_
    rintro e w4 ⟨i4, c4, rfl, p4, g4, S4⟩
    have cc := S4.cell
    have BB := S4.bel
    clear S4
    by_cases e0 : c4 = 0
    · subst e0
      go_wp2_with fail
      go_ret2
      exact ⟨i4, 1, rfl, by have := HL9.out; omega, by have := HL9.out; omega, .inr (.inl rfl), BB⟩
    · by_cases e12 : c4 = 12
      · subst e12
        go_wp2_with fail
        go_ret2
        exact ⟨i4, 2, rfl, by have := HL9.out; omega, by have := HL9.out; omega, .inr (.inr rfl), BB⟩
      · have f0 : (c4 == 0) = false := by simp [e0]
        have f12 : (c4 == 12) = false := by simp [e12]
        go_wp2_with fail
        go_ret2
        exact ⟨i4, 0, rfl, by have := HL9.out; omega, by have := HL9.out; omega, .inl rfl, BB⟩
end Go.Proofs.Ythpgnlmkgllonaa
