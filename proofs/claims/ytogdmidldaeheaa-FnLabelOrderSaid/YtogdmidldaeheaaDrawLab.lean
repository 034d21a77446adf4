/- The labels that the reference draws from a code. No condition. -/
import Derived.Test.YtogdmidldaeheaaLabDraw
import Derived.Test.YtogdmidldaeheaaBoxes
import Derived.RegionTactic
namespace Go.Proofs.Ytogdmidldaeheaa
open Go.RowKit Go.PlainAid
set_option maxRecDepth 100000
set_option linter.unusedVariables false
theorem Saves.bel {C : Nat} {a b : World} (h : Saves C a b) {w : World} (h0 : Below w.heap.size w a) (h1 : w.heap.size ≤ C) : Below w.heap.size w b := h0.trans (h.below h1 h0.size)
theorem big_any (xs : List Int) (v : Value) (w : World) (h : SliceOf w 1 vB v xs) : Calls Try.prog 45 #[v] w fun e w' => e = .returned (.bool (decide (4096 < (xs.length : Int)))) ∧ w = w' := by
  obtain ⟨A, c, rfl, hle, hm⟩ := h.form
  go_enter Try.func45, Try.ntmps45
  go_wp2
  go_ret
  exact ⟨rfl, rfl⟩
set_option maxHeartbeats 1600000 in
theorem drawLabel_any (xs : List Int) (v : Value) (w : World) (h : SliceOf w 1 vB v xs) : Calls Try.prog 59 #[v] w fun e w' => ∃ (a b : Int) (s : ByteArray), e = .returned (.agg #[.int .i64 a, .int .i64 b, .string s]) ∧ okI a ∧ okI b ∧ s ∈ labelNames ∧ Below w.heap.size w w' := by
  obtain ⟨A, c, rfl, hle, hm⟩ := h.form
  go_enter Try.func59, Try.ntmps59
  go_wp2_with fail
  obtain ⟨W, hW⟩ : ∃ W, W = w.alloc (.cells #[.int .i64 0, .int .i64 0, .string ⟨#[]⟩] 31) := ⟨_, rfl⟩
  try rw [← hW]
  have z0 : W.cell? ⟨w.heap.size, 0, none⟩ = some (.int .i64 0) := by rw [hW]; simp [go_sem]
  have z1 : W.cell? ⟨w.heap.size, 1, none⟩ = some (.int .i64 0) := by rw [hW]; simp [go_sem]
  have z2 : W.cell? ⟨w.heap.size, 2, none⟩ = some (.string ⟨#[]⟩) := by rw [hW]; simp [go_sem]
  have fz : ∀ j, W.frozen? ⟨w.heap.size, j, none⟩ = false := fun j => by rw [hW]; simp [go_sem]
  have bW : Below w.heap.size w W := by rw [hW]; go_grown
  have hs : W.heap.size = w.heap.size + 1 := by rw [hW]; simp
  clear hW
  refine (new_any xs _ _ (h.keep bW (Nat.le_refl _))).mono ?_
  rintro e w1 ⟨C, hC, rfl, c1, b1⟩
  have B1 := chain bW b1
  go_wp2_with fail
  refine (anyLabel_any C _ c1).mono ?_
  rintro e w2 ⟨a, b, s, rfl, oa, ob, os, c2, s2⟩
  have b2 := s2.bel b1 hC
  have B2 := chain bW b2
  have hz := cell_lt z0
  replace fz : ∀ j, w2.frozen? ⟨w.heap.size, j, none⟩ = false := fun j => (b2.frozen (p := ⟨w.heap.size, j, none⟩) hz).trans (fz j)
  replace z0 := cell_keep b2 z0
  replace z1 := cell_keep b2 z1
  replace z2 := cell_keep b2 z2
  go_wp2_with fail
  refine bodyPost_ret (v := .agg #[.int .i64 a, .int .i64 b, .string s]) (by simp [results, Try.results59, go_sem, z0, z1, z2]) rfl ⟨_, _, _, rfl, oa, ob, os, ((B2.setCell (by simp only; omega) _).setCell (by simp only; omega) _).setCell (by simp only; omega) _⟩
set_option maxHeartbeats 8000000 in
theorem drawCompare_any (xs : List Int) (v : Value) (w : World) (h : SliceOf w 1 vB v xs) : Calls Try.prog 58 #[v] w fun e w' => ∃ (a b : Int) (s : ByteArray) (a' b' : Int) (s' : ByteArray), e = .returned (.tuple #[.agg #[.int .i64 a, .int .i64 b, .string s], .agg #[.int .i64 a', .int .i64 b', .string s']]) ∧ okI a ∧ okI b ∧ s ∈ labelNames ∧ okI a' ∧ okI b' ∧ s' ∈ labelNames ∧ Below w.heap.size w w' := by
  obtain ⟨A, c, rfl, hle, hm⟩ := h.form
  go_enter Try.func58, Try.ntmps58
  go_wp2_with fail
  obtain ⟨W, hW⟩ : ∃ W, W = (w.alloc (.cells #[.int .i64 0, .int .i64 0, .string ⟨#[]⟩] 31)).alloc (.cells #[.int .i64 0, .int .i64 0, .string ⟨#[]⟩] 31) := ⟨_, rfl⟩
  try rw [← hW]
  have P : Box W w.heap.size 31 #[.int .i64 0, .int .i64 0, .string ⟨#[]⟩] := by rw [hW]; exact (Box.new _ _ _).alloc _
  have Q : Box W (w.heap.size + 1) 31 #[.int .i64 0, .int .i64 0, .string ⟨#[]⟩] := by
    have h := Box.new (w.alloc (.cells #[.int .i64 0, .int .i64 0, .string ⟨#[]⟩] 31)) 31 #[.int .i64 0, .int .i64 0, .string ⟨#[]⟩]
    rw [show (w.alloc (.cells #[.int .i64 0, .int .i64 0, .string ⟨#[]⟩] 31)).heap.size = w.heap.size + 1 from by simp] at h
    rw [hW]; exact h
  have bW : Below w.heap.size w W := by rw [hW]; go_grown
  have hs : W.heap.size = w.heap.size + 2 := by rw [hW]; simp
  clear hW
  have HS := Lib.hid hs; clear hs
  refine (new_any xs _ _ (h.keep bW (Nat.le_refl _))).mono ?_
  rintro e w1 ⟨C, hC, rfl, c1, b1⟩
  replace P := P.keep b1
  replace Q := Q.keep b1
  have hC' : w.heap.size + 2 ≤ C := by have := HS.out; omega
  have S1 : Saves C w w1 := Saves.of_below (chain bW b1)
  go_wp2_with fail
  refine (anyLabel_any C _ c1).mono ?_
  rintro e w2 ⟨a, b, s, rfl, oa, ob, os, c2, s2⟩
  replace P := P.saves s2 (by omega)
  replace Q := Q.saves s2 (by omega)
  have S2 := S1.trans s2
  have n2 := c2.lt
  go_wp2_with fail
  obtain ⟨V, hV⟩ : ∃ V, V = w2.alloc (.cells #[.int .i64 a, .int .i64 b, .string s] 31) := ⟨_, rfl⟩
  rw [← hV]
  have X : Box V w2.heap.size 31 #[.int .i64 a, .int .i64 b, .string s] := by rw [hV]; exact Box.new _ _ _
  replace P : Box V w.heap.size 31 #[.int .i64 0, .int .i64 0, .string ⟨#[]⟩] := by rw [hV]; exact P.alloc _
  replace Q : Box V (w.heap.size + 1) 31 #[.int .i64 0, .int .i64 0, .string ⟨#[]⟩] := by rw [hV]; exact Q.alloc _
  have bV : Below w2.heap.size w2 V := by rw [hV]; go_grown
  clear hV
  have S3 := S2.trans (Saves.of_below bV)
  refine (anyLabel_any C _ (c2.keep bV)).mono ?_
  rintro e w3 ⟨a', b', s', rfl, oa', ob', os', c3, s3⟩
  replace P := P.saves s3 (by omega)
  replace Q := Q.saves s3 (by omega)
  replace X := X.saves s3 (by omega)
  have S4 := S3.trans s3
  have n3 := X.lt
  go_wp2_with fail
  obtain ⟨V2, hV⟩ : ∃ V2, V2 = w3.alloc (.cells #[.int .i64 a', .int .i64 b', .string s'] 31) := ⟨_, rfl⟩
  rw [← hV]
  have Y : Box V2 w3.heap.size 31 #[.int .i64 a', .int .i64 b', .string s'] := by rw [hV]; exact Box.new _ _ _
  replace P : Box V2 w.heap.size 31 #[.int .i64 0, .int .i64 0, .string ⟨#[]⟩] := by rw [hV]; exact P.alloc _
  replace Q : Box V2 (w.heap.size + 1) 31 #[.int .i64 0, .int .i64 0, .string ⟨#[]⟩] := by rw [hV]; exact Q.alloc _
  replace X : Box V2 w2.heap.size 31 #[.int .i64 a, .int .i64 b, .string s] := by rw [hV]; exact X.alloc _
  have bV2 : Below w3.heap.size w3 V2 := by rw [hV]; go_grown
  clear hV
  have S5 := S4.trans (Saves.of_below bV2)
  refine (below_any C 4 _ (c3.keep bV2) (by unfold okI; omega)).mono ?_
  rintro e w4 ⟨k, rfl, k0, k1, k2, c4, s4⟩
  have n4 := c3.lt
  replace P := P.saves s4 (by omega)
  replace Q := Q.saves s4 (by omega)
  replace X := X.saves s4 (by omega)
  replace Y := Y.saves s4 (by omega)
  have S6 := S5.trans s4
  have hB := S6.below (B := w.heap.size) (by omega) (Nat.le_refl _)
  have p0 : w4.cell? ⟨w.heap.size, 0, none⟩ = some (.int .i64 0) := P.cell 0
  have p1 : w4.cell? ⟨w.heap.size, 1, none⟩ = some (.int .i64 0) := P.cell 1
  have p2 : w4.cell? ⟨w.heap.size, 2, none⟩ = some (.string ⟨#[]⟩) := P.cell 2
  have pf : ∀ j, w4.frozen? ⟨w.heap.size, j, none⟩ = false := fun j => P.frozen j
  have q0 : w4.cell? ⟨w.heap.size + 1, 0, none⟩ = some (.int .i64 0) := Q.cell 0
  have q1 : w4.cell? ⟨w.heap.size + 1, 1, none⟩ = some (.int .i64 0) := Q.cell 1
  have q2 : w4.cell? ⟨w.heap.size + 1, 2, none⟩ = some (.string ⟨#[]⟩) := Q.cell 2
  have qf : ∀ j, w4.frozen? ⟨w.heap.size + 1, j, none⟩ = false := fun j => Q.frozen j
  have x0 : w4.cell? ⟨w2.heap.size, 0, none⟩ = some (.int .i64 a) := X.cell 0
  have x1 : w4.cell? ⟨w2.heap.size, 1, none⟩ = some (.int .i64 b) := X.cell 1
  have x2 : w4.cell? ⟨w2.heap.size, 2, none⟩ = some (.string s) := X.cell 2
  have xf : ∀ j, w4.frozen? ⟨w2.heap.size, j, none⟩ = false := fun j => X.frozen j
  have y0 : w4.cell? ⟨w3.heap.size, 0, none⟩ = some (.int .i64 a') := Y.cell 0
  have y1 : w4.cell? ⟨w3.heap.size, 1, none⟩ = some (.int .i64 b') := Y.cell 1
  have y2 : w4.cell? ⟨w3.heap.size, 2, none⟩ = some (.string s') := Y.cell 2
  have yf : ∀ j, w4.frozen? ⟨w3.heap.size, j, none⟩ = false := fun j => Y.frozen j
  have dpq : ¬ w.heap.size = w.heap.size + 1 := by omega
  have dpx : ¬ w.heap.size = w2.heap.size := by omega
  have dpy : ¬ w.heap.size = w3.heap.size := by omega
  have dqp : ¬ w.heap.size + 1 = w.heap.size := by omega
  have dqx : ¬ w.heap.size + 1 = w2.heap.size := by omega
  have dqy : ¬ w.heap.size + 1 = w3.heap.size := by omega
  have dxp : ¬ w2.heap.size = w.heap.size := by omega
  have dxq : ¬ w2.heap.size = w.heap.size + 1 := by omega
  have dxy : ¬ w2.heap.size = w3.heap.size := by omega
  have dyp : ¬ w3.heap.size = w.heap.size := by omega
  have dyq : ¬ w3.heap.size = w.heap.size + 1 := by omega
  have dyx : ¬ w3.heap.size = w2.heap.size := by omega
  have k3 := k2 (by omega)
  have hw3 : w.heap.size ≤ w3.heap.size := S4.size
  clear S1 S2 S3 S4 S5 n2 n3 n4 c1 c2 c3 bW bV bV2 b1 s2 s3 s4
  rcases (show k = 0 ∨ k = 1 ∨ k = 2 ∨ k = 3 by omega) with rfl | rfl | rfl | rfl
  · go_wp2_with fail
    obtain ⟨V, hV⟩ : ∃ V, V = (((w4.setCell ⟨w3.heap.size, 0, none⟩ (.int .i64 a)).setCell ⟨w3.heap.size, 1, none⟩ (.int .i64 b)).setCell ⟨w3.heap.size, 2, none⟩ (.string s)) := ⟨_, rfl⟩
    rw [← hV]
    have P' : Box V w.heap.size 31 #[.int .i64 0, .int .i64 0, .string ⟨#[]⟩] := by rw [hV]; exact (((P.far dpy _).far dpy _).far dpy _)
    have Q' : Box V (w.heap.size + 1) 31 #[.int .i64 0, .int .i64 0, .string ⟨#[]⟩] := by rw [hV]; exact (((Q.far dqy _).far dqy _).far dqy _)
    have X' : Box V w2.heap.size 31 #[.int .i64 a, .int .i64 b, .string s] := by rw [hV]; exact (((X.far dxy _).far dxy _).far dxy _)
    have Y' : Box V w3.heap.size 31 #[.int .i64 a, .int .i64 b, .string s] := by rw [hV]; exact (((Y.set 0 (.int .i64 a)).set 1 (.int .i64 b)).set 2 (.string s))
    have hB' : Below w.heap.size w V := by rw [hV]; exact (((hB.setCell (by simp only; omega) _).setCell (by simp only; omega) _).setCell (by simp only; omega) _)
    clear hV p0 p1 p2 q0 q1 q2 x0 x1 x2 y0 y1 y2 pf qf xf yf
    have p0 : V.cell? ⟨w.heap.size, 0, none⟩ = some (.int .i64 0) := P'.cell 0
    have p1 : V.cell? ⟨w.heap.size, 1, none⟩ = some (.int .i64 0) := P'.cell 1
    have p2 : V.cell? ⟨w.heap.size, 2, none⟩ = some (.string ⟨#[]⟩) := P'.cell 2
    have pf : ∀ j, V.frozen? ⟨w.heap.size, j, none⟩ = false := fun j => P'.frozen j
    have q0 : V.cell? ⟨w.heap.size + 1, 0, none⟩ = some (.int .i64 0) := Q'.cell 0
    have q1 : V.cell? ⟨w.heap.size + 1, 1, none⟩ = some (.int .i64 0) := Q'.cell 1
    have q2 : V.cell? ⟨w.heap.size + 1, 2, none⟩ = some (.string ⟨#[]⟩) := Q'.cell 2
    have qf : ∀ j, V.frozen? ⟨w.heap.size + 1, j, none⟩ = false := fun j => Q'.frozen j
    have x0 : V.cell? ⟨w2.heap.size, 0, none⟩ = some (.int .i64 a) := X'.cell 0
    have x1 : V.cell? ⟨w2.heap.size, 1, none⟩ = some (.int .i64 b) := X'.cell 1
    have x2 : V.cell? ⟨w2.heap.size, 2, none⟩ = some (.string s) := X'.cell 2
    have y0 : V.cell? ⟨w3.heap.size, 0, none⟩ = some (.int .i64 a) := Y'.cell 0
    have y1 : V.cell? ⟨w3.heap.size, 1, none⟩ = some (.int .i64 b) := Y'.cell 1
    have y2 : V.cell? ⟨w3.heap.size, 2, none⟩ = some (.string s) := Y'.cell 2
    clear P' Q' X' Y' P Q X Y hB
    go_region
    all_goals
      go_wp2_with fail
      refine bodyPost_ret (v := .tuple #[.agg #[.int .i64 a, .int .i64 b, .string s], .agg #[.int .i64 a, .int .i64 b, .string s]]) (by simp [results, Try.results58, go_sem, p0, p1, p2, q0, q1, q2]) rfl ⟨_, _, _, _, _, _, rfl, oa, ob, os, oa, ob, os, ?_⟩
      repeat' (first | with_reducible exact hB' | with_reducible refine Below.drew ?_ | with_reducible refine Below.setCell ?_ ?_ _ | (simp only; omega))
  · go_wp2_with fail
    obtain ⟨V, hV⟩ : ∃ V, V = (((w4.setCell ⟨w3.heap.size, 0, none⟩ (.int .i64 a)).setCell ⟨w3.heap.size, 1, none⟩ (.int .i64 b)).setCell ⟨w3.heap.size, 2, none⟩ (.string s')) := ⟨_, rfl⟩
    rw [← hV]
    have P' : Box V w.heap.size 31 #[.int .i64 0, .int .i64 0, .string ⟨#[]⟩] := by rw [hV]; exact (((P.far dpy _).far dpy _).far dpy _)
    have Q' : Box V (w.heap.size + 1) 31 #[.int .i64 0, .int .i64 0, .string ⟨#[]⟩] := by rw [hV]; exact (((Q.far dqy _).far dqy _).far dqy _)
    have X' : Box V w2.heap.size 31 #[.int .i64 a, .int .i64 b, .string s] := by rw [hV]; exact (((X.far dxy _).far dxy _).far dxy _)
    have Y' : Box V w3.heap.size 31 #[.int .i64 a, .int .i64 b, .string s'] := by rw [hV]; exact (((Y.set 0 (.int .i64 a)).set 1 (.int .i64 b)).set 2 (.string s'))
    have hB' : Below w.heap.size w V := by rw [hV]; exact (((hB.setCell (by simp only; omega) _).setCell (by simp only; omega) _).setCell (by simp only; omega) _)
    clear hV p0 p1 p2 q0 q1 q2 x0 x1 x2 y0 y1 y2 pf qf xf yf
    have p0 : V.cell? ⟨w.heap.size, 0, none⟩ = some (.int .i64 0) := P'.cell 0
    have p1 : V.cell? ⟨w.heap.size, 1, none⟩ = some (.int .i64 0) := P'.cell 1
    have p2 : V.cell? ⟨w.heap.size, 2, none⟩ = some (.string ⟨#[]⟩) := P'.cell 2
    have pf : ∀ j, V.frozen? ⟨w.heap.size, j, none⟩ = false := fun j => P'.frozen j
    have q0 : V.cell? ⟨w.heap.size + 1, 0, none⟩ = some (.int .i64 0) := Q'.cell 0
    have q1 : V.cell? ⟨w.heap.size + 1, 1, none⟩ = some (.int .i64 0) := Q'.cell 1
    have q2 : V.cell? ⟨w.heap.size + 1, 2, none⟩ = some (.string ⟨#[]⟩) := Q'.cell 2
    have qf : ∀ j, V.frozen? ⟨w.heap.size + 1, j, none⟩ = false := fun j => Q'.frozen j
    have x0 : V.cell? ⟨w2.heap.size, 0, none⟩ = some (.int .i64 a) := X'.cell 0
    have x1 : V.cell? ⟨w2.heap.size, 1, none⟩ = some (.int .i64 b) := X'.cell 1
    have x2 : V.cell? ⟨w2.heap.size, 2, none⟩ = some (.string s) := X'.cell 2
    have y0 : V.cell? ⟨w3.heap.size, 0, none⟩ = some (.int .i64 a) := Y'.cell 0
    have y1 : V.cell? ⟨w3.heap.size, 1, none⟩ = some (.int .i64 b) := Y'.cell 1
    have y2 : V.cell? ⟨w3.heap.size, 2, none⟩ = some (.string s') := Y'.cell 2
    clear P' Q' X' Y' P Q X Y hB
    go_region
    all_goals
      go_wp2_with fail
      refine bodyPost_ret (v := .tuple #[.agg #[.int .i64 a, .int .i64 b, .string s], .agg #[.int .i64 a, .int .i64 b, .string s']]) (by simp [results, Try.results58, go_sem, p0, p1, p2, q0, q1, q2]) rfl ⟨_, _, _, _, _, _, rfl, oa, ob, os, oa, ob, os', ?_⟩
      repeat' (first | with_reducible exact hB' | with_reducible refine Below.drew ?_ | with_reducible refine Below.setCell ?_ ?_ _ | (simp only; omega))
  · go_wp2_with fail
    obtain ⟨V, hV⟩ : ∃ V, V = (w4.setCell ⟨w3.heap.size, 0, none⟩ (.int .i64 a)) := ⟨_, rfl⟩
    rw [← hV]
    have P' : Box V w.heap.size 31 #[.int .i64 0, .int .i64 0, .string ⟨#[]⟩] := by rw [hV]; exact (P.far dpy _)
    have Q' : Box V (w.heap.size + 1) 31 #[.int .i64 0, .int .i64 0, .string ⟨#[]⟩] := by rw [hV]; exact (Q.far dqy _)
    have X' : Box V w2.heap.size 31 #[.int .i64 a, .int .i64 b, .string s] := by rw [hV]; exact (X.far dxy _)
    have Y' : Box V w3.heap.size 31 #[.int .i64 a, .int .i64 b', .string s'] := by rw [hV]; exact (Y.set 0 (.int .i64 a))
    have hB' : Below w.heap.size w V := by rw [hV]; exact (hB.setCell (by simp only; omega) _)
    clear hV p0 p1 p2 q0 q1 q2 x0 x1 x2 y0 y1 y2 pf qf xf yf
    have p0 : V.cell? ⟨w.heap.size, 0, none⟩ = some (.int .i64 0) := P'.cell 0
    have p1 : V.cell? ⟨w.heap.size, 1, none⟩ = some (.int .i64 0) := P'.cell 1
    have p2 : V.cell? ⟨w.heap.size, 2, none⟩ = some (.string ⟨#[]⟩) := P'.cell 2
    have pf : ∀ j, V.frozen? ⟨w.heap.size, j, none⟩ = false := fun j => P'.frozen j
    have q0 : V.cell? ⟨w.heap.size + 1, 0, none⟩ = some (.int .i64 0) := Q'.cell 0
    have q1 : V.cell? ⟨w.heap.size + 1, 1, none⟩ = some (.int .i64 0) := Q'.cell 1
    have q2 : V.cell? ⟨w.heap.size + 1, 2, none⟩ = some (.string ⟨#[]⟩) := Q'.cell 2
    have qf : ∀ j, V.frozen? ⟨w.heap.size + 1, j, none⟩ = false := fun j => Q'.frozen j
    have x0 : V.cell? ⟨w2.heap.size, 0, none⟩ = some (.int .i64 a) := X'.cell 0
    have x1 : V.cell? ⟨w2.heap.size, 1, none⟩ = some (.int .i64 b) := X'.cell 1
    have x2 : V.cell? ⟨w2.heap.size, 2, none⟩ = some (.string s) := X'.cell 2
    have y0 : V.cell? ⟨w3.heap.size, 0, none⟩ = some (.int .i64 a) := Y'.cell 0
    have y1 : V.cell? ⟨w3.heap.size, 1, none⟩ = some (.int .i64 b') := Y'.cell 1
    have y2 : V.cell? ⟨w3.heap.size, 2, none⟩ = some (.string s') := Y'.cell 2
    clear P' Q' X' Y' P Q X Y hB
    go_region
    all_goals
      go_wp2_with fail
      refine bodyPost_ret (v := .tuple #[.agg #[.int .i64 a, .int .i64 b, .string s], .agg #[.int .i64 a, .int .i64 b', .string s']]) (by simp [results, Try.results58, go_sem, p0, p1, p2, q0, q1, q2]) rfl ⟨_, _, _, _, _, _, rfl, oa, ob, os, oa, ob', os', ?_⟩
      repeat' (first | with_reducible exact hB' | with_reducible refine Below.drew ?_ | with_reducible refine Below.setCell ?_ ?_ _ | (simp only; omega))
  · go_wp2_with fail
    obtain ⟨V, hV⟩ : ∃ V, V = w4 := ⟨_, rfl⟩
    rw [← hV]
    have P' : Box V w.heap.size 31 #[.int .i64 0, .int .i64 0, .string ⟨#[]⟩] := by rw [hV]; exact P
    have Q' : Box V (w.heap.size + 1) 31 #[.int .i64 0, .int .i64 0, .string ⟨#[]⟩] := by rw [hV]; exact Q
    have X' : Box V w2.heap.size 31 #[.int .i64 a, .int .i64 b, .string s] := by rw [hV]; exact X
    have Y' : Box V w3.heap.size 31 #[.int .i64 a', .int .i64 b', .string s'] := by rw [hV]; exact Y
    have hB' : Below w.heap.size w V := by rw [hV]; exact hB
    clear hV p0 p1 p2 q0 q1 q2 x0 x1 x2 y0 y1 y2 pf qf xf yf
    have p0 : V.cell? ⟨w.heap.size, 0, none⟩ = some (.int .i64 0) := P'.cell 0
    have p1 : V.cell? ⟨w.heap.size, 1, none⟩ = some (.int .i64 0) := P'.cell 1
    have p2 : V.cell? ⟨w.heap.size, 2, none⟩ = some (.string ⟨#[]⟩) := P'.cell 2
    have pf : ∀ j, V.frozen? ⟨w.heap.size, j, none⟩ = false := fun j => P'.frozen j
    have q0 : V.cell? ⟨w.heap.size + 1, 0, none⟩ = some (.int .i64 0) := Q'.cell 0
    have q1 : V.cell? ⟨w.heap.size + 1, 1, none⟩ = some (.int .i64 0) := Q'.cell 1
    have q2 : V.cell? ⟨w.heap.size + 1, 2, none⟩ = some (.string ⟨#[]⟩) := Q'.cell 2
    have qf : ∀ j, V.frozen? ⟨w.heap.size + 1, j, none⟩ = false := fun j => Q'.frozen j
    have x0 : V.cell? ⟨w2.heap.size, 0, none⟩ = some (.int .i64 a) := X'.cell 0
    have x1 : V.cell? ⟨w2.heap.size, 1, none⟩ = some (.int .i64 b) := X'.cell 1
    have x2 : V.cell? ⟨w2.heap.size, 2, none⟩ = some (.string s) := X'.cell 2
    have y0 : V.cell? ⟨w3.heap.size, 0, none⟩ = some (.int .i64 a') := Y'.cell 0
    have y1 : V.cell? ⟨w3.heap.size, 1, none⟩ = some (.int .i64 b') := Y'.cell 1
    have y2 : V.cell? ⟨w3.heap.size, 2, none⟩ = some (.string s') := Y'.cell 2
    clear P' Q' X' Y' P Q X Y hB
    go_region
    all_goals
      go_wp2_with fail
      refine bodyPost_ret (v := .tuple #[.agg #[.int .i64 a, .int .i64 b, .string s], .agg #[.int .i64 a', .int .i64 b', .string s']]) (by simp [results, Try.results58, go_sem, p0, p1, p2, q0, q1, q2]) rfl ⟨_, _, _, _, _, _, rfl, oa, ob, os, oa', ob', os', ?_⟩
      repeat' (first | with_reducible exact hB' | with_reducible refine Below.drew ?_ | with_reducible refine Below.setCell ?_ ?_ _ | (simp only; omega))
end Go.Proofs.Ytogdmidldaeheaa
