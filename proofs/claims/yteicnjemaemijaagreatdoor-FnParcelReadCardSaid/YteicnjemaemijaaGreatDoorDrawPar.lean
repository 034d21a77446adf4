/- What the reference's draws of sides and of a parcel answer. No condition. -/
import Derived.Test.YteicnjemaemijaaGreatDoorLabDraw
import Derived.Test.YteicnjemaemijaaGreatDoorBoxes
import Derived.Test.YteicnjemaemijaaGreatDoorSides
import Derived.Test.YteicnjemaemijaaGreatDoorOwn
import Derived.Deep.RegionHeld3
namespace Go.Proofs.YteicnjemaemijaaGreatDoor
open Go.RowKit Go.PlainAid
set_option maxRecDepth 100000
set_option linter.unusedVariables false
/-- Three sides in a block of their own. -/
def Tri (w : World) (g : Nat) (x y z : Int) : Prop := Box w g 3 #[.int .i64 x, .int .i64 y, .int .i64 z]
theorem Tri.slice {w : World} {g : Nat} {x y z : Int} (h : Tri w g x y z) : SliceOf w 1 vI (.slice (some ⟨g, 0, none⟩) 3 3) [x, y, z] := by
  refine ⟨_, 3, rfl, Nat.le_refl _, by unfold maxLen; omega, fun _ => ⟨g, 0, rfl, Box.lt h, fun k u j v hu hv => ?_⟩⟩
  have hj : j = 0 := by
    have := (List.getElem?_eq_some_iff.1 hv).1
    simp [vI] at this; omega
  subst hj
  simp [vI] at hv
  subst hv
  have hk : k < 3 := by have := (List.getElem?_eq_some_iff.1 hu).1; simpa using this
  rw [Box.cell h]
  rcases (show k = 0 ∨ k = 1 ∨ k = 2 by omega) with rfl | rfl | rfl <;> simp at hu <;> subst hu <;> simp
def TriP (C : Nat) (w : World) (e : Ending) (w' : World) : Prop := ∃ (g : Nat) (x y z : Int), e = .returned (.slice (some ⟨g, 0, none⟩) 3 3) ∧ Tri w' g x y z ∧ w.heap.size ≤ g ∧ (1 ≤ x ∧ x ≤ 600) ∧ (1 ≤ y ∧ y ≤ 400) ∧ (1 ≤ z ∧ z ≤ 300) ∧ Cur C w' ∧ Saves C w w'
set_option maxHeartbeats 1600000 in
theorem sides_any (C : Nat) (w : World) (hc : Cur C w) : Calls Tryz.prog 70 #[.pointer (some ⟨C, 0, none⟩)] w (TriP C w) := by
  go_enter Tryz.func70, Tryz.ntmps70
  go_wp2_with fail
  refine (below_any C 600 _ hc (by unfold okI; omega)).mono ?_
  rintro e w1 ⟨x, rfl, x0, x1, x2, c1, s1⟩
  have x3 := x2 (by omega)
  go_wp2_with fail
  refine (below_any C 400 _ c1 (by unfold okI; omega)).mono ?_
  rintro e w2 ⟨y, rfl, y0, y1, y2, c2, s2⟩
  have y3 := y2 (by omega)
  go_wp2_with fail
  refine (below_any C 300 _ c2 (by unfold okI; omega)).mono ?_
  rintro e w3 ⟨z, rfl, z0, z1, z2, c3, s3⟩
  have z3 := z2 (by omega)
  have S := (s1.trans s2).trans s3
  have bX : Below w3.heap.size w3 (w3.alloc (.cells #[.int .i64 (1 + x), .int .i64 (1 + y), .int .i64 (1 + z)] 3)) := by go_grown
  have T : Tri (w3.alloc (.cells #[.int .i64 (1 + x), .int .i64 (1 + y), .int .i64 (1 + z)] 3)) w3.heap.size (1 + x) (1 + y) (1 + z) := Box.new _ _ _
  have TT := Lib.hid T
  clear T
  go_wp2_with fail
  go_ret
  exact ⟨_, _, _, _, rfl, TT.out, S.size, by omega, by omega, by omega, c3.keep bX, S.trans (Saves.of_below bX)⟩
def weightNums : List Int := [1, 500, 1000, 1001, 5000, 30000]
theorem weightNums_ok : ∀ x ∈ weightNums, okI x := by unfold okI weightNums; decide
theorem lab_small {s : ByteArray} (h : s ∈ labelNames) : s.size ≤ maxLen := by
  have : ∀ t ∈ labelNames, t.size ≤ maxLen := by unfold labelNames placeNames badPlaces maxLen; decide
  exact this s h
theorem plc_small {s : ByteArray} (h : s ∈ placeNames) : s.size ≤ maxLen := lab_small (in_places h)
def ParP (C : Nat) (w : World) (e : Ending) (w' : World) : Prop := ∃ (a b : Int) (t f : ByteArray) (wt : Int) (g : Nat) (x y z vl : Int), e = .returned (.agg #[.int .i64 a, .int .i64 b, .string t, .string f, .int .i64 wt, .slice (some ⟨g, 0, none⟩) 3 3, .int .i64 vl]) ∧
  okI a ∧ okI b ∧ t.size ≤ maxLen ∧ f.size ≤ maxLen ∧ okI wt ∧ Tri w' g x y z ∧ w.heap.size ≤ g ∧ (1 ≤ x ∧ x ≤ 600) ∧ (1 ≤ y ∧ y ≤ 400) ∧ (1 ≤ z ∧ z ≤ 300) ∧ okI vl ∧ Cur C w' ∧ Saves C w w'
/-- A parcel with whatever sides. -/
def AnyP (C : Nat) (w : World) (e : Ending) (w' : World) : Prop := ∃ (a b : Int) (t f : ByteArray) (wt : Int) (A : Option Addr) (c : Nat) (xs : List Int) (vl : Int), e = .returned (.agg #[.int .i64 a, .int .i64 b, .string t, .string f, .int .i64 wt, .slice A xs.length c, .int .i64 vl]) ∧
  okI a ∧ okI b ∧ t.size ≤ maxLen ∧ f.size ≤ maxLen ∧ okI wt ∧ SliceOf w' 1 vI (.slice A xs.length c) xs ∧ (∀ bb off, A = some ⟨bb, off, none⟩ → w.heap.size ≤ bb) ∧ (∀ x ∈ xs, okI x) ∧ xs.length ≤ 4 ∧ okI vl ∧ Cur C w' ∧ Saves C w w'
set_option maxHeartbeats 6400000 in
theorem parcel_any (C : Nat) (w : World) (hc : Cur C w) : Calls Tryz.prog 48 #[.pointer (some ⟨C, 0, none⟩)] w (ParP C w) := by
  have lt := hc.lt
  go_enter Tryz.func48, Tryz.ntmps48
  go_wp2_with fail
  obtain ⟨W, hW⟩ : ∃ W, W = w.alloc (.cells #[.int .i64 0, .int .i64 0, .string ⟨#[]⟩, .string ⟨#[]⟩, .int .i64 0, .slice none 0 0, .int .i64 0] 26) := ⟨_, rfl⟩
  rw [← hW]
  have P : Box W w.heap.size 26 #[.int .i64 0, .int .i64 0, .string ⟨#[]⟩, .string ⟨#[]⟩, .int .i64 0, .slice none 0 0, .int .i64 0] := by rw [hW]; exact Box.new _ _ _
  have bW : Below w.heap.size w W := by rw [hW]; go_grown
  clear hW
  have S0 : Saves C w W := Saves.of_below bW
  refine (label_any C _ (hc.keep bW)).mono ?_
  rintro e w1 ⟨a, b, t, rfl, oa, ob, ot, c1, s1⟩
  replace P := P.saves s1 (by omega)
  have S1 := S0.trans s1
  go_wp2_with fail
  refine (place_any C _ c1).mono ?_
  rintro e w2 ⟨f, rfl, of, c2, s2⟩
  replace P := P.saves s2 (by omega)
  have S2 := S1.trans s2
  go_wp2_with fail
  refine (below_any C 30000 _ c2 (by unfold okI; omega)).mono ?_
  rintro e w3 ⟨n, rfl, n0, n1, n2, c3, s3⟩
  have n3 := n2 (by omega)
  replace P := P.saves s3 (by omega)
  have S3 := S2.trans s3
  have lt3 := c3.lt
  have lP3 := P.lt
  go_wp2_with fail
  refine (sides_any C _ c3).mono ?_
  rintro e w4 ⟨g, x, y, z, rfl, G, hg, hx, hy, hz, c4, s4⟩
  replace P := P.saves s4 (by omega)
  have S4 := S3.trans s4
  have z3 := S3.size
  go_wp2_with fail
  refine (below_any C 500001 _ c4 (by unfold okI; omega)).mono ?_
  rintro e w5 ⟨v, rfl, v0, v1, v2, c5, s5⟩
  have v3 := v2 (by omega)
  replace P := P.saves s5 (by omega)
  replace G : Tri w5 g x y z := Box.saves G s5 (by omega)
  have S5 := S4.trans s5
  have lP := P.lt
  have lG : g < w5.heap.size := Box.lt G
  have gP : g ≠ w.heap.size := by omega
  have hgw : w.heap.size ≤ g := by omega
  have ngC : g ≠ C := by omega
  cases e0 : (f.toList == t.toList)
  · go_wp2_with fail
    obtain ⟨V, hV⟩ : ∃ V, V = w5.alloc (.cells #[.int .i64 a, .int .i64 b, .string t, .string f, .int .i64 (1 + n), .slice (some ⟨g, 0, none⟩) 3 3, .int .i64 v] 26) := ⟨_, rfl⟩
    rw [← hV]
    have Q : Box V w5.heap.size 26 #[.int .i64 a, .int .i64 b, .string t, .string f, .int .i64 (1 + n), .slice (some ⟨g, 0, none⟩) 3 3, .int .i64 v] := by rw [hV]; exact Box.new _ _ _
    have bV : Below w5.heap.size w5 V := by rw [hV]; go_grown
    clear hV
    replace P := P.keep bV
    replace G : Tri V g x y z := Box.keep G bV
    have SV := S5.trans (Saves.of_below bV)
    refine (once_any C 3 _ (c5.keep bV) (by unfold okI; omega)).mono ?_
    rintro e w6 ⟨u, rfl, c6, s6⟩
    have lQ := Q.lt
    replace P := P.saves s6 (by omega)
    replace Q := Q.saves s6 (by have := c5.lt; omega)
    replace G : Tri w6 g x y z := Box.saves G s6 ngC
    have S6 := SV.trans s6
    have nPQ : ¬ w.heap.size = w5.heap.size := by omega
    have nQP : ¬ w5.heap.size = w.heap.size := by omega
    have nGQ : g ≠ w5.heap.size := by omega
    have zs5 := S5.size
    clear s1 s2 s3 s4 s5 s6 c1 c2 c3 c4 S0 S1 S2 S3 S4 SV bW bV
    cases u
    · have p0 : w6.cell? ⟨w.heap.size, 0, none⟩ = some (.int .i64 0) := P.cell 0
      have p1 : w6.cell? ⟨w.heap.size, 1, none⟩ = some (.int .i64 0) := P.cell 1
      have p2 : w6.cell? ⟨w.heap.size, 2, none⟩ = some (.string ⟨#[]⟩) := P.cell 2
      have p3 : w6.cell? ⟨w.heap.size, 3, none⟩ = some (.string ⟨#[]⟩) := P.cell 3
      have p4 : w6.cell? ⟨w.heap.size, 4, none⟩ = some (.int .i64 0) := P.cell 4
      have p5 : w6.cell? ⟨w.heap.size, 5, none⟩ = some (.slice none 0 0) := P.cell 5
      have p6 : w6.cell? ⟨w.heap.size, 6, none⟩ = some (.int .i64 0) := P.cell 6
      have pf : ∀ j, w6.frozen? ⟨w.heap.size, j, none⟩ = false := fun j => P.frozen j
      have q0 : w6.cell? ⟨w5.heap.size, 0, none⟩ = some (.int .i64 a) := Q.cell 0
      have q1 : w6.cell? ⟨w5.heap.size, 1, none⟩ = some (.int .i64 b) := Q.cell 1
      have q2 : w6.cell? ⟨w5.heap.size, 2, none⟩ = some (.string t) := Q.cell 2
      have q3 : w6.cell? ⟨w5.heap.size, 3, none⟩ = some (.string f) := Q.cell 3
      have q4 : w6.cell? ⟨w5.heap.size, 4, none⟩ = some (.int .i64 (1 + n)) := Q.cell 4
      have q5 : w6.cell? ⟨w5.heap.size, 5, none⟩ = some (.slice (some ⟨g, 0, none⟩) 3 3) := Q.cell 5
      have q6 : w6.cell? ⟨w5.heap.size, 6, none⟩ = some (.int .i64 v) := Q.cell 6
      have qf : ∀ j, w6.frozen? ⟨w5.heap.size, j, none⟩ = false := fun j => Q.frozen j
      go_wp2_with fail
      refine bodyPost_ret (v := .agg #[.int .i64 a, .int .i64 b, .string t, .string f, .int .i64 (1 + n), .slice (some ⟨g, 0, none⟩) 3 3, .int .i64 v]) (by simp [results, Tryz.results48, go_sem, p0, p1, p2, p3, p4, p5, p6]) rfl ⟨a, b, t, f, 1 + n, g, x, y, z, v, rfl, oa, ob, plc_small ot, plc_small of, by unfold okI; omega, ?_, hgw, hx, hy, hz, by unfold okI; omega, ?_, ?_⟩
      · show Box _ _ _ _
        have GB : Box w6 g 3 #[.int .i64 x, .int .i64 y, .int .i64 z] := G
        repeat' (first | with_reducible exact GB | with_reducible refine Box.far ?_ ?_ _ | (simp only; omega))
      · repeat' (first | with_reducible exact c6 | with_reducible refine Cur.setB ?_ ?_ _ | (simp only; omega))
      · repeat' (first | with_reducible exact S6 | with_reducible refine Saves.setNew ?_ ?_ _ | (simp only; omega))
    · go_wp2_with fail
      have hS := lit_slice (f := Value.int .i64) (vals := vI) (fun _ => rfl) weightNums 3 w6 #[.int .i64 1, .int .i64 500, .int .i64 1000, .int .i64 1001, .int .i64 5000, .int .i64 30000] rfl (by decide)
      have bS : Below w6.heap.size w6 (w6.alloc (.cells #[.int .i64 1, .int .i64 500, .int .i64 1000, .int .i64 1001, .int .i64 5000, .int .i64 30000] 3)) := by go_grown
      refine (int_any C weightNums _ _ (c6.keep bS) weightNums_ok (by decide) hS (fun b off n c hv => by have := c6.lt; injection hv with e1 e2 e3; injection e1 with e1; injection e1 with e1 e2; omega)).mono ?_
      rintro e w7 ⟨nn, rfl, hnn, c7, s7⟩
      replace P := (P.keep bS).saves s7 (by omega)
      replace Q := (Q.keep bS).saves s7 (by omega)
      replace G : Tri w7 g x y z := Box.saves (Box.keep G bS) s7 ngC
      have S7 := (S6.trans (Saves.of_below bS)).trans s7
      clear s7 bS hS S6
      have p0 : w7.cell? ⟨w.heap.size, 0, none⟩ = some (.int .i64 0) := P.cell 0
      have p1 : w7.cell? ⟨w.heap.size, 1, none⟩ = some (.int .i64 0) := P.cell 1
      have p2 : w7.cell? ⟨w.heap.size, 2, none⟩ = some (.string ⟨#[]⟩) := P.cell 2
      have p3 : w7.cell? ⟨w.heap.size, 3, none⟩ = some (.string ⟨#[]⟩) := P.cell 3
      have p4 : w7.cell? ⟨w.heap.size, 4, none⟩ = some (.int .i64 0) := P.cell 4
      have p5 : w7.cell? ⟨w.heap.size, 5, none⟩ = some (.slice none 0 0) := P.cell 5
      have p6 : w7.cell? ⟨w.heap.size, 6, none⟩ = some (.int .i64 0) := P.cell 6
      have pf : ∀ j, w7.frozen? ⟨w.heap.size, j, none⟩ = false := fun j => P.frozen j
      have q0 : w7.cell? ⟨w5.heap.size, 0, none⟩ = some (.int .i64 a) := Q.cell 0
      have q1 : w7.cell? ⟨w5.heap.size, 1, none⟩ = some (.int .i64 b) := Q.cell 1
      have q2 : w7.cell? ⟨w5.heap.size, 2, none⟩ = some (.string t) := Q.cell 2
      have q3 : w7.cell? ⟨w5.heap.size, 3, none⟩ = some (.string f) := Q.cell 3
      have q4 : w7.cell? ⟨w5.heap.size, 4, none⟩ = some (.int .i64 (1 + n)) := Q.cell 4
      have q5 : w7.cell? ⟨w5.heap.size, 5, none⟩ = some (.slice (some ⟨g, 0, none⟩) 3 3) := Q.cell 5
      have q6 : w7.cell? ⟨w5.heap.size, 6, none⟩ = some (.int .i64 v) := Q.cell 6
      have qf : ∀ j, w7.frozen? ⟨w5.heap.size, j, none⟩ = false := fun j => Q.frozen j
      go_wp2_with fail
      refine bodyPost_ret (v := .agg #[.int .i64 a, .int .i64 b, .string t, .string f, .int .i64 nn, .slice (some ⟨g, 0, none⟩) 3 3, .int .i64 v]) (by simp [results, Tryz.results48, go_sem, p0, p1, p2, p3, p4, p5, p6]) rfl ⟨a, b, t, f, nn, g, x, y, z, v, rfl, oa, ob, plc_small ot, plc_small of, weightNums_ok _ hnn, ?_, hgw, hx, hy, hz, by unfold okI; omega, ?_, ?_⟩
      · show Box _ _ _ _
        have GB : Box w7 g 3 #[.int .i64 x, .int .i64 y, .int .i64 z] := G
        repeat' (first | with_reducible exact GB | with_reducible refine Box.far ?_ ?_ _ | (simp only; omega))
      · repeat' (first | with_reducible exact c7 | with_reducible refine Cur.setB ?_ ?_ _ | (simp only; omega))
      · repeat' (first | with_reducible exact S7 | with_reducible refine Saves.setNew ?_ ?_ _ | (simp only; omega))
  · go_wp2_with fail
    obtain ⟨V, hV⟩ : ∃ V, V = w5.alloc (.cells #[.int .i64 a, .int .i64 b, .string t, .string ⟨#[79, 83, 76]⟩, .int .i64 (1 + n), .slice (some ⟨g, 0, none⟩) 3 3, .int .i64 v] 26) := ⟨_, rfl⟩
    rw [← hV]
    have Q : Box V w5.heap.size 26 #[.int .i64 a, .int .i64 b, .string t, .string ⟨#[79, 83, 76]⟩, .int .i64 (1 + n), .slice (some ⟨g, 0, none⟩) 3 3, .int .i64 v] := by rw [hV]; exact Box.new _ _ _
    have bV : Below w5.heap.size w5 V := by rw [hV]; go_grown
    clear hV
    replace P := P.keep bV
    replace G : Tri V g x y z := Box.keep G bV
    have SV := S5.trans (Saves.of_below bV)
    refine (once_any C 3 _ (c5.keep bV) (by unfold okI; omega)).mono ?_
    rintro e w6 ⟨u, rfl, c6, s6⟩
    have lQ := Q.lt
    replace P := P.saves s6 (by omega)
    replace Q := Q.saves s6 (by have := c5.lt; omega)
    replace G : Tri w6 g x y z := Box.saves G s6 ngC
    have S6 := SV.trans s6
    have nPQ : ¬ w.heap.size = w5.heap.size := by omega
    have nQP : ¬ w5.heap.size = w.heap.size := by omega
    have nGQ : g ≠ w5.heap.size := by omega
    have zs5 := S5.size
    clear s1 s2 s3 s4 s5 s6 c1 c2 c3 c4 S0 S1 S2 S3 S4 SV bW bV
    cases u
    · have p0 : w6.cell? ⟨w.heap.size, 0, none⟩ = some (.int .i64 0) := P.cell 0
      have p1 : w6.cell? ⟨w.heap.size, 1, none⟩ = some (.int .i64 0) := P.cell 1
      have p2 : w6.cell? ⟨w.heap.size, 2, none⟩ = some (.string ⟨#[]⟩) := P.cell 2
      have p3 : w6.cell? ⟨w.heap.size, 3, none⟩ = some (.string ⟨#[]⟩) := P.cell 3
      have p4 : w6.cell? ⟨w.heap.size, 4, none⟩ = some (.int .i64 0) := P.cell 4
      have p5 : w6.cell? ⟨w.heap.size, 5, none⟩ = some (.slice none 0 0) := P.cell 5
      have p6 : w6.cell? ⟨w.heap.size, 6, none⟩ = some (.int .i64 0) := P.cell 6
      have pf : ∀ j, w6.frozen? ⟨w.heap.size, j, none⟩ = false := fun j => P.frozen j
      have q0 : w6.cell? ⟨w5.heap.size, 0, none⟩ = some (.int .i64 a) := Q.cell 0
      have q1 : w6.cell? ⟨w5.heap.size, 1, none⟩ = some (.int .i64 b) := Q.cell 1
      have q2 : w6.cell? ⟨w5.heap.size, 2, none⟩ = some (.string t) := Q.cell 2
      have q3 : w6.cell? ⟨w5.heap.size, 3, none⟩ = some (.string ⟨#[79, 83, 76]⟩) := Q.cell 3
      have q4 : w6.cell? ⟨w5.heap.size, 4, none⟩ = some (.int .i64 (1 + n)) := Q.cell 4
      have q5 : w6.cell? ⟨w5.heap.size, 5, none⟩ = some (.slice (some ⟨g, 0, none⟩) 3 3) := Q.cell 5
      have q6 : w6.cell? ⟨w5.heap.size, 6, none⟩ = some (.int .i64 v) := Q.cell 6
      have qf : ∀ j, w6.frozen? ⟨w5.heap.size, j, none⟩ = false := fun j => Q.frozen j
      go_wp2_with fail
      refine bodyPost_ret (v := .agg #[.int .i64 a, .int .i64 b, .string t, .string ⟨#[79, 83, 76]⟩, .int .i64 (1 + n), .slice (some ⟨g, 0, none⟩) 3 3, .int .i64 v]) (by simp [results, Tryz.results48, go_sem, p0, p1, p2, p3, p4, p5, p6]) rfl ⟨a, b, t, ⟨#[79, 83, 76]⟩, 1 + n, g, x, y, z, v, rfl, oa, ob, plc_small ot, by show 3 ≤ maxLen; unfold maxLen; omega, by unfold okI; omega, ?_, hgw, hx, hy, hz, by unfold okI; omega, ?_, ?_⟩
      · show Box _ _ _ _
        have GB : Box w6 g 3 #[.int .i64 x, .int .i64 y, .int .i64 z] := G
        repeat' (first | with_reducible exact GB | with_reducible refine Box.far ?_ ?_ _ | (simp only; omega))
      · repeat' (first | with_reducible exact c6 | with_reducible refine Cur.setB ?_ ?_ _ | (simp only; omega))
      · repeat' (first | with_reducible exact S6 | with_reducible refine Saves.setNew ?_ ?_ _ | (simp only; omega))
    · go_wp2_with fail
      have hS := lit_slice (f := Value.int .i64) (vals := vI) (fun _ => rfl) weightNums 3 w6 #[.int .i64 1, .int .i64 500, .int .i64 1000, .int .i64 1001, .int .i64 5000, .int .i64 30000] rfl (by decide)
      have bS : Below w6.heap.size w6 (w6.alloc (.cells #[.int .i64 1, .int .i64 500, .int .i64 1000, .int .i64 1001, .int .i64 5000, .int .i64 30000] 3)) := by go_grown
      refine (int_any C weightNums _ _ (c6.keep bS) weightNums_ok (by decide) hS (fun b off n c hv => by have := c6.lt; injection hv with e1 e2 e3; injection e1 with e1; injection e1 with e1 e2; omega)).mono ?_
      rintro e w7 ⟨nn, rfl, hnn, c7, s7⟩
      replace P := (P.keep bS).saves s7 (by omega)
      replace Q := (Q.keep bS).saves s7 (by omega)
      replace G : Tri w7 g x y z := Box.saves (Box.keep G bS) s7 ngC
      have S7 := (S6.trans (Saves.of_below bS)).trans s7
      clear s7 bS hS S6
      have p0 : w7.cell? ⟨w.heap.size, 0, none⟩ = some (.int .i64 0) := P.cell 0
      have p1 : w7.cell? ⟨w.heap.size, 1, none⟩ = some (.int .i64 0) := P.cell 1
      have p2 : w7.cell? ⟨w.heap.size, 2, none⟩ = some (.string ⟨#[]⟩) := P.cell 2
      have p3 : w7.cell? ⟨w.heap.size, 3, none⟩ = some (.string ⟨#[]⟩) := P.cell 3
      have p4 : w7.cell? ⟨w.heap.size, 4, none⟩ = some (.int .i64 0) := P.cell 4
      have p5 : w7.cell? ⟨w.heap.size, 5, none⟩ = some (.slice none 0 0) := P.cell 5
      have p6 : w7.cell? ⟨w.heap.size, 6, none⟩ = some (.int .i64 0) := P.cell 6
      have pf : ∀ j, w7.frozen? ⟨w.heap.size, j, none⟩ = false := fun j => P.frozen j
      have q0 : w7.cell? ⟨w5.heap.size, 0, none⟩ = some (.int .i64 a) := Q.cell 0
      have q1 : w7.cell? ⟨w5.heap.size, 1, none⟩ = some (.int .i64 b) := Q.cell 1
      have q2 : w7.cell? ⟨w5.heap.size, 2, none⟩ = some (.string t) := Q.cell 2
      have q3 : w7.cell? ⟨w5.heap.size, 3, none⟩ = some (.string ⟨#[79, 83, 76]⟩) := Q.cell 3
      have q4 : w7.cell? ⟨w5.heap.size, 4, none⟩ = some (.int .i64 (1 + n)) := Q.cell 4
      have q5 : w7.cell? ⟨w5.heap.size, 5, none⟩ = some (.slice (some ⟨g, 0, none⟩) 3 3) := Q.cell 5
      have q6 : w7.cell? ⟨w5.heap.size, 6, none⟩ = some (.int .i64 v) := Q.cell 6
      have qf : ∀ j, w7.frozen? ⟨w5.heap.size, j, none⟩ = false := fun j => Q.frozen j
      go_wp2_with fail
      refine bodyPost_ret (v := .agg #[.int .i64 a, .int .i64 b, .string t, .string ⟨#[79, 83, 76]⟩, .int .i64 nn, .slice (some ⟨g, 0, none⟩) 3 3, .int .i64 v]) (by simp [results, Tryz.results48, go_sem, p0, p1, p2, p3, p4, p5, p6]) rfl ⟨a, b, t, ⟨#[79, 83, 76]⟩, nn, g, x, y, z, v, rfl, oa, ob, plc_small ot, by show 3 ≤ maxLen; unfold maxLen; omega, weightNums_ok _ hnn, ?_, hgw, hx, hy, hz, by unfold okI; omega, ?_, ?_⟩
      · show Box _ _ _ _
        have GB : Box w7 g 3 #[.int .i64 x, .int .i64 y, .int .i64 z] := G
        repeat' (first | with_reducible exact GB | with_reducible refine Box.far ?_ ?_ _ | (simp only; omega))
      · repeat' (first | with_reducible exact c7 | with_reducible refine Cur.setB ?_ ?_ _ | (simp only; omega))
      · repeat' (first | with_reducible exact S7 | with_reducible refine Saves.setNew ?_ ?_ _ | (simp only; omega))
end Go.Proofs.YteicnjemaemijaaGreatDoor
