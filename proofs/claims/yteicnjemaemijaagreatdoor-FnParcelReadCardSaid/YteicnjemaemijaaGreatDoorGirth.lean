/- What GirthOf and FitsIn answer: the program's and the reference's alike. No condition. -/
import Derived.Test.YteicnjemaemijaaGreatDoorSortS
namespace Go.Proofs.YteicnjemaemijaaGreatDoor
open Go.RowKit Go.PlainAid
set_option maxRecDepth 100000
set_option linter.unusedVariables false
/-- Around a box, and along it. -/
def girth (xs : List Int) : Int := if three xs then (sortD xs).getD 0 0 + 2 * (sortD xs).getD 1 0 + 2 * (sortD xs).getD 2 0 else 0
def fits (xs ys : List Int) : Bool := three xs && three ys && decide ((sortD xs).getD 0 0 ≤ (sortD ys).getD 0 0) && decide ((sortD xs).getD 1 0 ≤ (sortD ys).getD 1 0) && decide ((sortD xs).getD 2 0 ≤ (sortD ys).getD 2 0)
/-- Three sides, sorted. -/
theorem three_sorted {xs : List Int} (h : three xs = true) : ∃ p q r, sortD xs = [p, q, r] ∧ q ≤ p ∧ r ≤ q ∧ 1 ≤ r ∧ p ≤ 2000 ∧ xs.length = 3 := by
  obtain ⟨a, b, c, rfl, ha, hb, hc⟩ := three_of h
  obtain ⟨p, q, r, e, h1, h2, hp⟩ := sortD3 a b c
  obtain ⟨b1, b2, b3⟩ := sortD3_bounds (p := fun t => 1 ≤ t ∧ t ≤ 2000) hp ha hb hc
  exact ⟨p, q, r, e, h1, h2, b3.1, b1.2, rfl⟩
theorem slice3c {w : World} {v : Value} {p q r : Int} (h : SliceOf w 1 vI v [p, q, r]) : ∃ g off c, v = .slice (some ⟨g, off, none⟩) 3 c ∧ 3 ≤ c ∧ c ≤ 9223372036854775807 ∧ g < w.heap.size ∧ w.cell? ⟨g, off, none⟩ = some (.int .i64 p) ∧ w.cell? ⟨g, off + 1, none⟩ = some (.int .i64 q) ∧ w.cell? ⟨g, off + 2, none⟩ = some (.int .i64 r) := by
  obtain ⟨A, c, rfl, h1, h2, h3⟩ := h
  obtain ⟨g, off, rfl, hg, hc⟩ := h3 (by simp)
  unfold maxLen at h2
  exact ⟨g, off, c, rfl, h1, h2, hg, by simpa using hc 0 p 0 _ rfl rfl, by simpa using hc 1 q 0 _ rfl rfl, by simpa using hc 2 r 0 _ rfl rfl⟩
set_option maxHeartbeats 1600000 in
theorem girthI (xs : List Int) (v : Value) (w : World) (h : SliceOf w 1 vI v xs) : Calls Tryz.prog 36 #[v] w fun e w' => e = .returned (.int .i64 (girth xs)) ∧ Below w.heap.size w w' := by
  cases ht : three xs
  · have HV : Hid (girth xs = 0) := Lib.hid (by unfold girth; rw [ht]; rfl)
    obtain ⟨A, c, rfl, hl, hm⟩ := h.form
    go_enter Tryz.func36, Tryz.ntmps36
    go_wp2_with (go_at_call 35; refine (threeI _ _ _ h).mono ?_; rintro e w' ⟨rfl, rfl⟩)
    go_ret
    exact ⟨ret_int HV.out.symm, Below.refl _ _⟩
  · obtain ⟨p, q, r, hs, h1, h2, h3, h4, hl⟩ := three_sorted ht
    have HV : Hid (girth xs = p + 2 * q + 2 * r) := Lib.hid (by unfold girth; rw [ht, hs]; rfl)
    have t3 := threeI xs v w h
    rw [ht] at t3
    have H3 := Lib.hid t3
    clear t3
    have CS := sortI xs _ _ h (by omega) (by omega)
    have HS := Lib.hid hs
    obtain ⟨A, c, rfl, -, -⟩ := h.form
    clear h hs hl ht
    have w1 : IntKind.i64.wrap (2 * q) = 2 * q := IntWalk.i64_in _ (by omega)
    have w2 : IntKind.i64.wrap (2 * r) = 2 * r := IntWalk.i64_in _ (by omega)
    have w3 : IntKind.i64.wrap (p + 2 * q) = p + 2 * q := IntWalk.i64_in _ (by omega)
    have w4 : IntKind.i64.wrap (p + 2 * q + 2 * r) = p + 2 * q + 2 * r := IntWalk.i64_in _ (by omega)
    clear h1 h2 h3 h4
    go_enter Tryz.func36, Tryz.ntmps36
    go_wp2_with fail
    refine H3.out.mono ?_
    rintro e w' ⟨rfl, rfl⟩
    go_wp2_with fail
    refine CS.mono ?_
    rintro e w' ⟨v', rfl, hs', b1⟩
    rw [HS.out] at hs'
    obtain ⟨g, off, c', rfl, g1, g2, hg, c0, c1, c2⟩ := slice3c hs'
    clear hs'
    go_wp2_with fail
    go_quiet (fail)
    go_wp2_with fail
    go_ret
    exact ⟨ret_int HV.out.symm, below_drewN b1 _⟩
set_option maxHeartbeats 1600000 in
theorem girthS (xs : List Int) (v : Value) (w : World) (h : SliceOf w 1 vI v xs) : Calls Tryz.prog 41 #[v] w fun e w' => e = .returned (.int .i64 (girth xs)) ∧ Below w.heap.size w w' := by
  cases ht : three xs
  · have HV : Hid (girth xs = 0) := Lib.hid (by unfold girth; rw [ht]; rfl)
    obtain ⟨A, c, rfl, hl, hm⟩ := h.form
    go_enter Tryz.func41, Tryz.ntmps41
    go_wp2_with (go_at_call 40; refine (threeS _ _ _ h).mono ?_; rintro e w' ⟨rfl, rfl⟩)
    go_ret
    exact ⟨ret_int HV.out.symm, Below.refl _ _⟩
  · obtain ⟨p, q, r, hs, h1, h2, h3, h4, hl⟩ := three_sorted ht
    have HV : Hid (girth xs = p + 2 * q + 2 * r) := Lib.hid (by unfold girth; rw [ht, hs]; rfl)
    have t3 := threeS xs v w h
    rw [ht] at t3
    have H3 := Lib.hid t3
    clear t3
    have CS := sortS xs _ _ h (by omega)
    have HS := Lib.hid hs
    obtain ⟨A, c, rfl, -, -⟩ := h.form
    clear h hs hl ht
    have w1 : IntKind.i64.wrap (2 * q) = 2 * q := IntWalk.i64_in _ (by omega)
    have w2 : IntKind.i64.wrap (2 * r) = 2 * r := IntWalk.i64_in _ (by omega)
    have w3 : IntKind.i64.wrap (p + 2 * q) = p + 2 * q := IntWalk.i64_in _ (by omega)
    have w4 : IntKind.i64.wrap (p + 2 * q + 2 * r) = p + 2 * q + 2 * r := IntWalk.i64_in _ (by omega)
    clear h1 h2 h3 h4
    go_enter Tryz.func41, Tryz.ntmps41
    go_wp2_with fail
    refine H3.out.mono ?_
    rintro e w' ⟨rfl, rfl⟩
    go_wp2_with fail
    refine CS.mono ?_
    rintro e w' ⟨v', rfl, hs', b1⟩
    rw [HS.out] at hs'
    obtain ⟨g, off, c', rfl, g1, g2, hg, c0, c1, c2⟩ := slice3c hs'
    clear hs'
    go_wp2_with fail
    go_quiet (fail)
    go_wp2_with fail
    go_ret
    exact ⟨ret_int HV.out.symm, below_drewN b1 _⟩
end Go.Proofs.YteicnjemaemijaaGreatDoor
