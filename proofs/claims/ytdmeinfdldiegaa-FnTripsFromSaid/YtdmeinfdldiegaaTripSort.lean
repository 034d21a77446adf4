/- The comparison of two trips by their start and their leg, and the stable sort of a row of trips. No condition. -/
import Derived.Test.YtdmeinfdldiegaaTripRow
import Derived.Test.YtdmeinfdldiegaaTrips
import Derived.Test.YtdmeinfdldiegaaCmp
import Derived.Test.YtdmeinfdldiegaaInsKit
import Derived.Deep.RegionHeld3
namespace Go.Proofs.Ytdmeinfdldiegaa
open Go.RowKit Go.PlainAid Go.Shelf
set_option maxRecDepth 100000
set_option linter.unusedVariables false
theorem slice2 (w : World) (e : TypeId) (a b : Int) : SliceOf (w.alloc (.cells #[.int .i64 a, .int .i64 b] e)) 1 vI (.slice (some ⟨w.heap.size, 0, none⟩) 2 2) [a, b] := by
  refine ⟨_, 2, rfl, by simp, by unfold maxLen; omega, fun _ => ⟨w.heap.size, 0, rfl, by simp, fun k x j u hx hu => ?_⟩⟩
  have hj : j = 0 := by
    have := (List.getElem?_eq_some_iff.1 hu).1
    simp [vI] at this; exact this
  subst hj
  have hk : k < 2 := (List.getElem?_eq_some_iff.1 hx).1
  rcases (show k = 0 ∨ k = 1 from by omega) with rfl | rfl <;> simp at hx <;> subst hx <;> simp [vI] at hu <;> subst hu <;> simp [go_sem]
theorem slice2d (w : World) (e : TypeId) (a b : Int) : SliceOf (w.alloc (.cells #[.int .i64 a, .int .i64 b] e)).drew 1 vI (.slice (some ⟨w.heap.size, 0, none⟩) 2 2) [a, b] := slice2 w e a b
theorem less_first (a b x y : Int) : decide (firstOf [cmpI a b, cmpI x y] < 0) = decide (a < b ∨ a = b ∧ x < y) := by
  rcases Int.lt_trichotomy a b with h | h | h
  · rw [cmpI_lt h]; simp [firstOf, h]
  · subst h
    rw [cmpI_eq]
    rcases Int.lt_trichotomy x y with g | g | g
    · rw [cmpI_lt g]; simp [firstOf, g]
    · subst g; rw [cmpI_eq]; simp [firstOf]
    · rw [cmpI_gt g]; simp [firstOf]; omega
  · rw [cmpI_gt h]; simp [firstOf]; omega
set_option maxHeartbeats 3200000 in
theorem lessT {w0 w : World} {legs : List LegD} {off : List Int} {ch : Int} {l o : Value} {nb ob g c n : Nat} {d : Nat → TripD} (F : TFix w0 legs off ch l o nb ob g) (h : TSt w0 legs ob g c n w d) (i j : Nat) (x y : Int) (hx : x = (i : Int)) (hy : y = (j : Int)) (hi : i < n) (hj : j < n) (hn : n < 1099511627776) :
    Calls Try.prog 31 (#[.int .i64 x, .int .i64 y] ++ #[.pointer (some ⟨nb, 0, none⟩), .pointer (some ⟨ob, 0, none⟩)]) w fun e w' => e = .returned (.bool (ltT legs (d i) (d j))) ∧ Below w.heap.size w w' := by
  subst hx hy
  obtain ⟨c0, c1, c2, sl, so, hnet, hne⟩ := F
  have hB := h.below
  have x0 := cell_keep hB c0
  have x1 := cell_keep hB c1
  have x2 := cell_keep hB c2
  replace sl := sl.keep hB (Nat.le_refl _)
  replace so := so.keep hB (Nat.le_refl _)
  have xo := h.obc
  obtain ⟨r0, r1⟩ := h.cells hi
  obtain ⟨s0, s1⟩ := h.cells hj
  obtain ⟨⟨bi0, bi1⟩, bi2, bi3⟩ := h.box i hi
  obtain ⟨⟨bj0, bj1⟩, bj2, bj3⟩ := h.box j hj
  obtain ⟨A, cl, rfl, -, -⟩ := sl.form
  obtain ⟨A', c', rfl, -, -⟩ := so.form
  have hval : ltT legs (d i) (d j) = decide (firstOf [cmpI (startT legs (d i).leg (d i).day) (startT legs (d j).leg (d j).day), cmpI (d i).leg (d j).leg] < 0) := (less_first _ _ _ _).symm
  obtain ⟨ni, hni⟩ := Int.eq_ofNat_of_zero_le bi0
  obtain ⟨nj, hnj⟩ := Int.eq_ofNat_of_zero_le bj0
  have li : ni < legs.length := by omega
  have lj : nj < legs.length := by omega
  obtain ⟨yi, hyi⟩ : ∃ yi, yi = (d i).day := ⟨_, rfl⟩
  obtain ⟨yj, hyj⟩ : ∃ yj, yj = (d j).day := ⟨_, rfl⟩
  rw [hni] at r0
  rw [hnj] at s0
  rw [← hyi] at r1
  rw [← hyj] at s1
  rw [hni, hnj, ← hyi, ← hyj] at hval
  have di0 : 0 ≤ yi := by omega
  have di1 : yi ≤ 60 := by omega
  have dj0 : 0 ≤ yj := by omega
  have dj1 : yj ≤ 60 := by omega
  have HV := Lib.hid hval
  have i0 : (0 : Int) ≤ (i : Int) := by omega
  have i1 : (i : Int) < (n : Int) := by omega
  have j0 : (0 : Int) ≤ (j : Int) := by omega
  have j1 : (j : Int) < (n : Int) := by omega
  clear hval hni hnj hyi hyj bi0 bi1 bi2 bi3 bj0 bj1 bj2 bj3 c0 c1 c2 h hB
  obtain ⟨wt, rfl⟩ : ∃ wt : World, wt = w := ⟨_, rfl⟩
  have bR : Hid (Below wt.heap.size wt wt.drew) := Lib.hid (Below.refl wt.heap.size wt).drew
  go_enter Try.func31, Try.ntmps31
  go_wp2_with fail
  go_region_held3 (fun Q => Q.cell? ⟨nb, 0, none⟩ = some (.slice A legs.length cl) ∧ Q.cell? ⟨nb, 1, none⟩ = some (.slice A' off.length c') ∧ Q.cell? ⟨nb, 2, none⟩ = some (.int .i64 ch) ∧ Q.cell? ⟨ob, 0, none⟩ = some (.slice (some ⟨g, 0, none⟩) n c) ∧ Q.cell? ⟨g, i * 2, none⟩ = some (.int .i64 (ni : Int)) ∧ Q.cell? ⟨g, i * 2 + 1, none⟩ = some (.int .i64 yi) ∧ Q.cell? ⟨g, j * 2, none⟩ = some (.int .i64 (nj : Int)) ∧ Q.cell? ⟨g, j * 2 + 1, none⟩ = some (.int .i64 yj) ∧ Below wt.heap.size wt Q)
    (((try go_split_ands); refine ⟨?_, ?_, ?_, ?_, ?_, ?_, ?_, ?_, ?_⟩ <;> first | with_reducible assumption | with_reducible exact bR.out | (with_reducible apply cell_drewI; with_reducible assumption) | (with_reducible apply cell_keep <;> with_reducible assumption) | (with_reducible apply Below.drew; with_reducible assumption) | (with_reducible apply chain' <;> with_reducible assumption) | (with_reducible apply cell_allocI; with_reducible assumption) | (with_reducible apply below_allocI; with_reducible assumption)))
    ((first
      | (go_at_call 29
         (try go_split_ands)
         with_reducible refine (startsI legs off ch yi ni _ _ _ hnet li di0 di1 (sl.keep (by assumption) (Nat.le_refl _)) (so.keep (by assumption) (Nat.le_refl _))).mono ?_
         rintro e w8 ⟨rfl, b8⟩)
      | (go_at_call 29
         (try go_split_ands)
         with_reducible refine (startsI legs off ch yj nj _ _ _ hnet lj dj0 dj1 (sl.keep (by assumption) (Nat.le_refl _)) (so.keep (by assumption) (Nat.le_refl _))).mono ?_
         rintro e w9 ⟨rfl, b9⟩)
      | (go_at_call 33
         with_reducible refine (compareInts_any _ _ _).mono ?_
         rintro e w10 ⟨rfl, rfl⟩)
      | (go_at_call 32
         with_reducible refine (first_any [_, _] _ _ (by first | exact slice2 _ _ _ _ | exact slice2d _ _ _ _)).mono ?_
         rintro e w11 ⟨rfl, rfl⟩)))
  all_goals
    (try go_split_ands)
    go_wp2_with fail
    go_ret
    exact ⟨ret_bool HV.out.symm, by assumption⟩
end Go.Proofs.Ytdmeinfdldiegaa
