/- The law FnTurned walked: it returns true. No condition. -/
import Derived.Test.YteolobffmldfhaaWFits
namespace Go.Proofs.Yteolobffmldfhaa
open Go.RowKit Go.PlainAid
set_option maxRecDepth 100000
set_option linter.unusedVariables false
theorem perm_turn (x y z : Int) : [x, y, z].Perm [y, z, x] := (List.perm_append_comm (l₁ := [x]) (l₂ := [y, z]))
theorem perm_swap (x y z : Int) : [x, y, z].Perm [y, x, z] := List.Perm.swap y x [z]
theorem perm_back (x y z : Int) : [x, y, z].Perm [z, y, x] := (List.reverse_perm [x, y, z]).symm
theorem go_alloc_below (w : World) (o : Obj) : Below w.heap.size w (w.alloc o) := (Below.refl _ _).alloc (Nat.le_refl _) o
theorem tri_new (w : World) (x y z : Int) : SliceOf (w.alloc (.cells #[.int .i64 x, .int .i64 y, .int .i64 z] 3)) 1 vI (.slice (some ⟨w.heap.size, 0, none⟩) 3 3) [x, y, z] := Tri.slice (Box.new _ _ _)
theorem below_allocT {wt w : World} (h : Below wt.heap.size wt w) (o : Obj) : Below wt.heap.size wt (w.alloc o) := h.alloc h.size o
theorem cell_drew {w : World} {p : Addr} {v : Value} (h : w.cell? p = some v) : w.drew.cell? p = some v := h
theorem slice3_at {w : World} {A : Option Addr} {n c : Nat} {x y z : Int} (h : SliceOf w 1 vI (.slice A n c) [x, y, z]) : ∃ g off, A = some ⟨g, off, none⟩ ∧ n = 3 ∧ g < w.heap.size ∧ w.cell? ⟨g, off, none⟩ = some (.int .i64 x) ∧ w.cell? ⟨g, off + 1, none⟩ = some (.int .i64 y) ∧ w.cell? ⟨g, off + 2, none⟩ = some (.int .i64 z) := by
  obtain ⟨g, off, c', e, h1, h2, h3, c0, c1, c2⟩ := slice3c h
  injection e with e1 e2 e3
  exact ⟨g, off, e1, e2, h3, c0, c1, c2⟩
set_option maxHeartbeats 12800000 in
theorem walk_Turned (v0 : Value) (w : World) (p0 : VBytes w v0) : Calls Try.prog 8 #[v0] w fun e w' => e = .returned (.bool true) ∧ Below w.heap.size w w' := by
  obtain ⟨cs, hok0, h0⟩ := p0
  by_cases hb : 4096 < (cs.length : Int)
  · have hb' : decide (4096 < (cs.length : Int)) = true := decide_eq_true hb
    go_enter Try.func8, Try.ntmps8
    go_wp2_with (go_at_call 24; refine (big_anyF cs _ _ h0).mono ?_; rintro e w' ⟨rfl, rfl⟩)
    go_ret
    exact ⟨rfl, Below.refl _ _⟩
  have hb' : decide (4096 < (cs.length : Int)) = false := decide_eq_false hb
  obtain ⟨A0, k0, rfl, hle0, hm0⟩ := h0.form
  go_enter Try.func8, Try.ntmps8
  go_wp2_with (go_at_call 24; refine (big_anyF cs _ _ h0).mono ?_; rintro e w' ⟨rfl, rfl⟩)
  refine (drawParcel_any cs _ _ h0).mono ?_
  rintro e w1 ⟨a, b, t, f, wt, A, c, xs, vl, rfl, oa, ob, ot, of, ow, sx, ox, hl4, ov, b1⟩
  by_cases h3 : xs.length = 3
  rotate_left
  · have h3' : ((xs.length : Int) != 3) = true := by simp; omega
    have ht : three xs = false := three_false (fun q => h3 q.1)
    have hg : girth xs = 0 := by unfold girth; rw [ht]; rfl
    have hv : vol xs = 0 := by unfold vol; rw [ht]; rfl
    have hp : parB a b t f wt xs vl = false := by unfold parB; rw [ht]; simp
    have HG := Lib.hid hg
    have HVV := Lib.hid hv
    have HP := Lib.hid hp
    clear ht hg hv hp
    go_wp2_with fail
    obtain ⟨W, hW⟩ : ∃ W, W = w1.alloc (.cells #[.int .i64 a, .int .i64 b, .string t, .string f, .int .i64 wt, .slice A xs.length c, .int .i64 vl] 41) := ⟨_, rfl⟩
    rw [← hW]
    have z0 : W.cell? ⟨w1.heap.size, 0, none⟩ = some (.int .i64 a) := by rw [hW]; simp [go_sem]
    have z1 : W.cell? ⟨w1.heap.size, 1, none⟩ = some (.int .i64 b) := by rw [hW]; simp [go_sem]
    have z2 : W.cell? ⟨w1.heap.size, 2, none⟩ = some (.string t) := by rw [hW]; simp [go_sem]
    have z3 : W.cell? ⟨w1.heap.size, 3, none⟩ = some (.string f) := by rw [hW]; simp [go_sem]
    have z4 : W.cell? ⟨w1.heap.size, 4, none⟩ = some (.int .i64 wt) := by rw [hW]; simp [go_sem]
    have z5 : W.cell? ⟨w1.heap.size, 5, none⟩ = some (.slice A xs.length c) := by rw [hW]; simp [go_sem]
    have z6 : W.cell? ⟨w1.heap.size, 6, none⟩ = some (.int .i64 vl) := by rw [hW]; simp [go_sem]
    have bW : Below w1.heap.size w1 W := by rw [hW]; go_grown
    have B2 := chain b1 bW
    clear hW
    have s2 := sx.keep bW (Nat.le_refl _)
    refine (girthI xs _ _ s2).mono ?_
    rintro e w3 ⟨rfl, b3⟩
    rw [HG.out]
    have B3 := chain B2 b3
    replace z0 := cell_keep b3 z0
    replace z1 := cell_keep b3 z1
    replace z2 := cell_keep b3 z2
    replace z3 := cell_keep b3 z3
    replace z4 := cell_keep b3 z4
    replace z5 := cell_keep b3 z5
    replace z6 := cell_keep b3 z6
    have s3 := s2.keep b3 (Nat.le_refl _)
    go_wp2_with fail
    refine (volumeI xs _ _ s3).mono ?_
    rintro e w4 ⟨rfl, b4⟩
    rw [HVV.out]
    have B4 := chain B3 b4
    replace z0 := cell_keep b4 z0
    replace z1 := cell_keep b4 z1
    replace z2 := cell_keep b4 z2
    replace z3 := cell_keep b4 z3
    replace z4 := cell_keep b4 z4
    replace z5 := cell_keep b4 z5
    replace z6 := cell_keep b4 z6
    have s4 := s3.keep b4 (Nat.le_refl _)
    go_wp2_with fail
    refine (isParcelI a b t f wt xs vl _ _ ot of s4).mono ?_
    rintro e w5 ⟨rfl, b5⟩
    rw [HP.out]
    go_wp2_with fail
    go_ret
    exact ⟨rfl, chain B4 b5⟩
  obtain ⟨x, y, z, rfl⟩ := quietThree h3
  simp only [List.length_cons, List.length_nil, Nat.zero_add] at sx ⊢
  obtain ⟨ga, off, rfl, -, hga, x0, x1, x2⟩ := slice3_at sx
  clear h3 hl4

  go_wp2_with fail
  obtain ⟨W, hW⟩ : ∃ W, W = (w1.alloc (.cells #[.int .i64 a, .int .i64 b, .string t, .string f, .int .i64 wt, .slice (some ⟨ga, off, none⟩) 3 c, .int .i64 vl] 41)).alloc (.cells #[.int .i64 a, .int .i64 b, .string t, .string f, .int .i64 wt, .slice (some ⟨ga, off, none⟩) 3 c, .int .i64 vl] 41) := ⟨_, rfl⟩
  rw [← hW]
  have p0 : W.cell? ⟨w1.heap.size, 0, none⟩ = some (.int .i64 a) := by rw [hW]; simp [go_sem]
  have p1 : W.cell? ⟨w1.heap.size, 1, none⟩ = some (.int .i64 b) := by rw [hW]; simp [go_sem]
  have p2 : W.cell? ⟨w1.heap.size, 2, none⟩ = some (.string t) := by rw [hW]; simp [go_sem]
  have p3 : W.cell? ⟨w1.heap.size, 3, none⟩ = some (.string f) := by rw [hW]; simp [go_sem]
  have p4 : W.cell? ⟨w1.heap.size, 4, none⟩ = some (.int .i64 wt) := by rw [hW]; simp [go_sem]
  have p5 : W.cell? ⟨w1.heap.size, 5, none⟩ = some (.slice (some ⟨ga, off, none⟩) 3 c) := by rw [hW]; simp [go_sem]
  have p6 : W.cell? ⟨w1.heap.size, 6, none⟩ = some (.int .i64 vl) := by rw [hW]; simp [go_sem]
  have q0 : W.cell? ⟨w1.heap.size + 1, 0, none⟩ = some (.int .i64 a) := by rw [hW]; simp [go_sem]
  have q1 : W.cell? ⟨w1.heap.size + 1, 1, none⟩ = some (.int .i64 b) := by rw [hW]; simp [go_sem]
  have q2 : W.cell? ⟨w1.heap.size + 1, 2, none⟩ = some (.string t) := by rw [hW]; simp [go_sem]
  have q3 : W.cell? ⟨w1.heap.size + 1, 3, none⟩ = some (.string f) := by rw [hW]; simp [go_sem]
  have q4 : W.cell? ⟨w1.heap.size + 1, 4, none⟩ = some (.int .i64 wt) := by rw [hW]; simp [go_sem]
  have q5 : W.cell? ⟨w1.heap.size + 1, 5, none⟩ = some (.slice (some ⟨ga, off, none⟩) 3 c) := by rw [hW]; simp [go_sem]
  have q6 : W.cell? ⟨w1.heap.size + 1, 6, none⟩ = some (.int .i64 vl) := by rw [hW]; simp [go_sem]
  have qf : ∀ j, W.frozen? ⟨w1.heap.size + 1, j, none⟩ = false := fun j => by rw [hW]; simp [go_sem]
  have PW : Box W w1.heap.size 41 #[.int .i64 a, .int .i64 b, .string t, .string f, .int .i64 wt, .slice (some ⟨ga, off, none⟩) 3 c, .int .i64 vl] := by rw [hW]; exact (Box.new _ _ _).alloc _
  have QW : Box W (w1.heap.size + 1) 41 #[.int .i64 a, .int .i64 b, .string t, .string f, .int .i64 wt, .slice (some ⟨ga, off, none⟩) 3 c, .int .i64 vl] := by
    have h := Box.new (w1.alloc (.cells #[.int .i64 a, .int .i64 b, .string t, .string f, .int .i64 wt, .slice (some ⟨ga, off, none⟩) 3 c, .int .i64 vl] 41)) 41 #[.int .i64 a, .int .i64 b, .string t, .string f, .int .i64 wt, .slice (some ⟨ga, off, none⟩) 3 c, .int .i64 vl]
    rw [show (w1.alloc (.cells #[.int .i64 a, .int .i64 b, .string t, .string f, .int .i64 wt, .slice (some ⟨ga, off, none⟩) 3 c, .int .i64 vl] 41)).heap.size = w1.heap.size + 1 from by simp] at h
    rw [hW]; exact h
  have bW : Below w1.heap.size w1 W := by rw [hW]; go_grown
  have zW : W.heap.size = w1.heap.size + 2 := by rw [hW]; simp
  clear hW
  have X0 := cell_keep bW x0
  have X1 := cell_keep bW x1
  have X2 := cell_keep bW x2
  clear x0 x1 x2
  have hga1 : ga ≠ w1.heap.size := by omega
  have hne2 : ga ≠ w1.heap.size + 1 := by omega
  have hne1 : w1.heap.size ≠ w1.heap.size + 1 := by omega
  have hne3 := hne1
  have hne4 := hne1
  go_region_held3 (fun Q => Q.cell? ⟨w1.heap.size, 5, none⟩ = some (.slice (some ⟨ga, off, none⟩) 3 c) ∧ Q.cell? ⟨ga, off, none⟩ = some (.int .i64 x) ∧ Q.cell? ⟨ga, off + 1, none⟩ = some (.int .i64 y) ∧ Q.cell? ⟨ga, off + 2, none⟩ = some (.int .i64 z)) (((try go_split_ands); refine ⟨?_, ?_, ?_, ?_⟩ <;> (repeat' (first | with_reducible assumption | with_reducible refine cell_drew ?_ | with_reducible refine cell_far' ?_ hne1 _ | with_reducible refine cell_far' ?_ hne2 _ | with_reducible refine cell_far' ?_ hne3 _ | with_reducible refine cell_far' ?_ hne4 _ | with_reducible refine cell_alloc' ?_ _ | with_reducible refine cell_keep (by assumption) ?_ | with_reducible refine slice_drew ?_ | with_reducible refine slice_keep (by assumption) ?_ | with_reducible refine Below.drew ?_ | with_reducible refine chain' (by assumption) ?_)))) (fail)
  go_wp2_with fail
  obtain ⟨U, hU⟩ : ∃ U, U = (((W.setCell ⟨w1.heap.size + 1, 5, none⟩ (.slice (some ⟨w1.heap.size + 2, 0, none⟩) 3 3)).alloc (.cells #[.int .i64 y, .int .i64 z, .int .i64 x] 3)).alloc (.cells #[.int .i64 a, .int .i64 b, .string t, .string f, .int .i64 wt, .slice (some ⟨ga, off, none⟩) 3 c, .int .i64 vl] 41)).drew := ⟨_, rfl⟩
  rw [← hU]
  have eS : (W.setCell ⟨w1.heap.size + 1, 5, none⟩ (.slice (some ⟨w1.heap.size + 2, 0, none⟩) 3 3)).heap.size = w1.heap.size + 2 := by simp [World.setCell, zW]
  have P : Box U w1.heap.size 41 #[.int .i64 a, .int .i64 b, .string t, .string f, .int .i64 wt, .slice (some ⟨ga, off, none⟩) 3 c, .int .i64 vl] := by rw [hU]; exact Box.drew (Box.alloc (Box.alloc (Box.far PW hne1 _) _) _)
  have QB : Box U (w1.heap.size + 1) 41 #[.int .i64 a, .int .i64 b, .string t, .string f, .int .i64 wt, .slice (some ⟨w1.heap.size + 2, 0, none⟩) 3 3, .int .i64 vl] := by rw [hU]; exact Box.drew (Box.alloc (Box.alloc (Box.set QW 5 _) _) _)
  have T1 : Tri U (w1.heap.size + 2) y z x := by
    have e := Box.new (W.setCell ⟨w1.heap.size + 1, 5, none⟩ (.slice (some ⟨w1.heap.size + 2, 0, none⟩) 3 3)) 3 #[.int .i64 y, .int .i64 z, .int .i64 x]
    rw [eS] at e
    rw [hU]; exact Box.drew (Box.alloc e _)
  have RB : Box U (w1.heap.size + 2 + 1) 41 #[.int .i64 a, .int .i64 b, .string t, .string f, .int .i64 wt, .slice (some ⟨ga, off, none⟩) 3 c, .int .i64 vl] := by
    have e := Box.new ((W.setCell ⟨w1.heap.size + 1, 5, none⟩ (.slice (some ⟨w1.heap.size + 2, 0, none⟩) 3 3)).alloc (.cells #[.int .i64 y, .int .i64 z, .int .i64 x] 3)) 41 #[.int .i64 a, .int .i64 b, .string t, .string f, .int .i64 wt, .slice (some ⟨ga, off, none⟩) 3 c, .int .i64 vl]
    rw [show ((W.setCell ⟨w1.heap.size + 1, 5, none⟩ (.slice (some ⟨w1.heap.size + 2, 0, none⟩) 3 3)).alloc (.cells #[.int .i64 y, .int .i64 z, .int .i64 x] 3)).heap.size = w1.heap.size + 2 + 1 from by simp [World.setCell, zW]] at e
    rw [hU]; exact Box.drew e
  have Y0 : U.cell? ⟨ga, off, none⟩ = some (.int .i64 x) := by rw [hU]; exact cell_drew (cell_alloc' (cell_alloc' (cell_far' X0 hne2 _) _) _)
  have Y1 : U.cell? ⟨ga, off + 1, none⟩ = some (.int .i64 y) := by rw [hU]; exact cell_drew (cell_alloc' (cell_alloc' (cell_far' X1 hne2 _) _) _)
  have Y2 : U.cell? ⟨ga, off + 2, none⟩ = some (.int .i64 z) := by rw [hU]; exact cell_drew (cell_alloc' (cell_alloc' (cell_far' X2 hne2 _) _) _)
  have bU : Below w1.heap.size w1 U := by rw [hU]; exact (((bW.setCell (by simp only; omega) _).alloc (by rw [eS]; omega) _).alloc (by simp [World.setCell, zW]; omega) _).drew
  have sPU := sx.keep bU (Nat.le_refl _)
  have p5U : U.cell? ⟨w1.heap.size, 5, none⟩ = some (.slice (some ⟨ga, off, none⟩) 3 c) := P.cell 5
  have rf : ∀ j, U.frozen? ⟨w1.heap.size + 2 + 1, j, none⟩ = false := fun j => RB.frozen j
  have r5 : U.cell? ⟨w1.heap.size + 2 + 1, 5, none⟩ = some (.slice (some ⟨ga, off, none⟩) 3 c) := RB.cell 5
  clear hU X0 X1 X2 bW zW eS PW QW qf sx p0 q0 p1 q1 p2 q2 p3 q3 p4 q4 p5 q5 p6 q6
  clear hne1 hne2 hne3 hne4
  have hne1 : w1.heap.size ≠ w1.heap.size + 2 + 1 := by omega
  have hne2 : ga ≠ w1.heap.size + 2 + 1 := by omega
  have hne3 := hne1
  have hne4 := hne1
  have lR : w1.heap.size + 2 + 1 < U.heap.size := RB.lt
  have nRU : ¬ w1.heap.size + 2 + 1 = U.heap.size := by omega
  have nUR : ¬ U.heap.size = w1.heap.size + 2 + 1 := by omega
  go_region_held3 (fun Q => Q.cell? ⟨w1.heap.size, 5, none⟩ = some (.slice (some ⟨ga, off, none⟩) 3 c) ∧ Q.cell? ⟨ga, off, none⟩ = some (.int .i64 x) ∧ Q.cell? ⟨ga, off + 1, none⟩ = some (.int .i64 y) ∧ Q.cell? ⟨ga, off + 2, none⟩ = some (.int .i64 z)) (((try go_split_ands); refine ⟨?_, ?_, ?_, ?_⟩ <;> (repeat' (first | with_reducible assumption | with_reducible refine cell_drew ?_ | with_reducible refine cell_far' ?_ hne1 _ | with_reducible refine cell_far' ?_ hne2 _ | with_reducible refine cell_far' ?_ hne3 _ | with_reducible refine cell_far' ?_ hne4 _ | with_reducible refine cell_alloc' ?_ _ | with_reducible refine cell_keep (by assumption) ?_ | with_reducible refine slice_drew ?_ | with_reducible refine slice_keep (by assumption) ?_ | with_reducible refine Below.drew ?_ | with_reducible refine chain' (by assumption) ?_)))) (fail)
  obtain ⟨U2, hU2⟩ : ∃ U2, U2 = ((U.setCell ⟨w1.heap.size + 2 + 1, 5, none⟩ (.slice (some ⟨U.heap.size, 0, none⟩) 3 3)).alloc (.cells #[.int .i64 y, .int .i64 x, .int .i64 z] 3)).drew := ⟨_, rfl⟩
  rw [← hU2]
  have P2 : Box U2 w1.heap.size 41 #[.int .i64 a, .int .i64 b, .string t, .string f, .int .i64 wt, .slice (some ⟨ga, off, none⟩) 3 c, .int .i64 vl] := by rw [hU2]; exact Box.drew (Box.alloc (Box.far P hne1 _) _)
  have Q2 : Box U2 (w1.heap.size + 1) 41 #[.int .i64 a, .int .i64 b, .string t, .string f, .int .i64 wt, .slice (some ⟨w1.heap.size + 2, 0, none⟩) 3 3, .int .i64 vl] := by rw [hU2]; exact Box.drew (Box.alloc (Box.far QB (by simp only; omega) _) _)
  have R2 : Box U2 (w1.heap.size + 2 + 1) 41 #[.int .i64 a, .int .i64 b, .string t, .string f, .int .i64 wt, .slice (some ⟨U.heap.size, 0, none⟩) 3 3, .int .i64 vl] := by rw [hU2]; exact Box.drew (Box.alloc (Box.set RB 5 _) _)
  have T12 : Tri U2 (w1.heap.size + 2) y z x := by rw [hU2]; exact Box.drew (Box.alloc (Box.far T1 (by simp only; omega) _) _)
  have T22 : Tri U2 U.heap.size y x z := by
    have e := Box.new (U.setCell ⟨w1.heap.size + 2 + 1, 5, none⟩ (.slice (some ⟨U.heap.size, 0, none⟩) 3 3)) 3 #[.int .i64 y, .int .i64 x, .int .i64 z]
    rw [show (U.setCell ⟨w1.heap.size + 2 + 1, 5, none⟩ (.slice (some ⟨U.heap.size, 0, none⟩) 3 3)).heap.size = U.heap.size from by simp [World.setCell]] at e
    rw [hU2]; exact Box.drew e
  have bU2 : Below w1.heap.size w1 U2 := by rw [hU2]; exact ((bU.setCell (by simp only; omega) _).alloc (by simp [World.setCell]; omega) _).drew
  have sP : SliceOf U2 1 vI (.slice (some ⟨ga, off, none⟩) 3 c) [x, y, z] := by
    rw [hU2]
    exact slice_drew (slice_keep (go_alloc_below _ _) (slice_set sPU (fun bb o e => by injection e with e; injection e with e1 e2; simp only; omega) _))
  have sQ := T12.slice
  have sR := T22.slice
  clear hU2 P QB RB T1 Y0 Y1 Y2 sPU p5U rf r5 T12 T22
  have BU := chain b1 bU2
  have D0 : Below U2.heap.size U2 U2 := Below.refl _ _
  have p0 : U2.cell? ⟨w1.heap.size, 0, none⟩ = some (.int .i64 a) := P2.cell 0
  have p1 : U2.cell? ⟨w1.heap.size, 1, none⟩ = some (.int .i64 b) := P2.cell 1
  have p2 : U2.cell? ⟨w1.heap.size, 2, none⟩ = some (.string t) := P2.cell 2
  have p3 : U2.cell? ⟨w1.heap.size, 3, none⟩ = some (.string f) := P2.cell 3
  have p4 : U2.cell? ⟨w1.heap.size, 4, none⟩ = some (.int .i64 wt) := P2.cell 4
  have p5 : U2.cell? ⟨w1.heap.size, 5, none⟩ = some (.slice (some ⟨ga, off, none⟩) 3 c) := P2.cell 5
  have p6 : U2.cell? ⟨w1.heap.size, 6, none⟩ = some (.int .i64 vl) := P2.cell 6
  have q0 : U2.cell? ⟨w1.heap.size + 1, 0, none⟩ = some (.int .i64 a) := Q2.cell 0
  have q1 : U2.cell? ⟨w1.heap.size + 1, 1, none⟩ = some (.int .i64 b) := Q2.cell 1
  have q2 : U2.cell? ⟨w1.heap.size + 1, 2, none⟩ = some (.string t) := Q2.cell 2
  have q3 : U2.cell? ⟨w1.heap.size + 1, 3, none⟩ = some (.string f) := Q2.cell 3
  have q4 : U2.cell? ⟨w1.heap.size + 1, 4, none⟩ = some (.int .i64 wt) := Q2.cell 4
  have q5 : U2.cell? ⟨w1.heap.size + 1, 5, none⟩ = some (.slice (some ⟨w1.heap.size + 2, 0, none⟩) 3 3) := Q2.cell 5
  have q6 : U2.cell? ⟨w1.heap.size + 1, 6, none⟩ = some (.int .i64 vl) := Q2.cell 6
  have r0 : U2.cell? ⟨w1.heap.size + 2 + 1, 0, none⟩ = some (.int .i64 a) := R2.cell 0
  have r1 : U2.cell? ⟨w1.heap.size + 2 + 1, 1, none⟩ = some (.int .i64 b) := R2.cell 1
  have r2 : U2.cell? ⟨w1.heap.size + 2 + 1, 2, none⟩ = some (.string t) := R2.cell 2
  have r3 : U2.cell? ⟨w1.heap.size + 2 + 1, 3, none⟩ = some (.string f) := R2.cell 3
  have r4 : U2.cell? ⟨w1.heap.size + 2 + 1, 4, none⟩ = some (.int .i64 wt) := R2.cell 4
  have r5 : U2.cell? ⟨w1.heap.size + 2 + 1, 5, none⟩ = some (.slice (some ⟨U.heap.size, 0, none⟩) 3 3) := R2.cell 5
  have r6 : U2.cell? ⟨w1.heap.size + 2 + 1, 6, none⟩ = some (.int .i64 vl) := R2.cell 6
  obtain ⟨pb, hpb⟩ : ∃ pb, pb = parB a b t f wt [x, y, z] vl := ⟨_, rfl⟩
  obtain ⟨gv, hgv⟩ : ∃ gv, gv = girth [x, y, z] := ⟨_, rfl⟩
  obtain ⟨vv, hvv⟩ : ∃ vv, vv = vol [x, y, z] := ⟨_, rfl⟩
  obtain ⟨cv, hcv⟩ : ∃ cv, cv = chargeW a b t f wt [x, y, z] vl := ⟨_, rfl⟩
  obtain ⟨th, hth⟩ : ∃ th, th = three [x, y, z] := ⟨_, rfl⟩
  have pI := fun (Q : World) (hQ : Below U2.heap.size U2 Q) => isParcelI a b t f wt [x, y, z] vl _ Q ot of (sP.keep hQ (Nat.le_refl _))
  have pS := fun (Q : World) (hQ : Below U2.heap.size U2 Q) => isParcelS a b t f wt [x, y, z] vl _ Q ot of (sP.keep hQ (Nat.le_refl _))
  have qI := fun (Q : World) (hQ : Below U2.heap.size U2 Q) => isParcelI a b t f wt [y, z, x] vl _ Q ot of (sQ.keep hQ (Nat.le_refl _))
  have gP := fun (Q : World) (hQ : Below U2.heap.size U2 Q) => girthI [x, y, z] _ Q (sP.keep hQ (Nat.le_refl _))
  have gQ := fun (Q : World) (hQ : Below U2.heap.size U2 Q) => girthI [y, z, x] _ Q (sQ.keep hQ (Nat.le_refl _))
  have vP := fun (Q : World) (hQ : Below U2.heap.size U2 Q) => volumeI [x, y, z] _ Q (sP.keep hQ (Nat.le_refl _))
  have vR := fun (Q : World) (hQ : Below U2.heap.size U2 Q) => volumeI [y, x, z] _ Q (sR.keep hQ (Nat.le_refl _))
  have cP := fun (Q : World) (hQ : Below U2.heap.size U2 Q) => chargeI a b t f wt [x, y, z] vl _ Q ot of (sP.keep hQ (Nat.le_refl _))
  have cR := fun (Q : World) (hQ : Below U2.heap.size U2 Q) => chargeI a b t f wt [y, x, z] vl _ Q ot of (sR.keep hQ (Nat.le_refl _))
  have fPQ := fun (Q : World) (hQ : Below U2.heap.size U2 Q) => fitsI [x, y, z] [y, z, x] _ _ Q (sP.keep hQ (Nat.le_refl _)) (sQ.keep hQ (Nat.le_refl _))
  rw [← hpb] at pI pS
  rw [← parB_perm (perm_turn x y z), ← hpb] at qI
  rw [← hgv] at gP
  rw [← girth_perm (perm_turn x y z), ← hgv] at gQ
  rw [← hvv] at vP
  rw [← vol_perm (perm_swap x y z), ← hvv] at vR
  rw [← hcv] at cP
  rw [← charge_perm (perm_swap x y z), ← hcv] at cR
  rw [fits_turned (perm_turn x y z), ← hth] at fPQ
  have DF : ∀ (Q : World), Below U2.heap.size U2 Q → Calls Try.prog 25 #[.slice A0 cs.length k0] Q fun e w' => ∃ (A : Option Addr) (c : Nat) (us : List Int) (g : Nat), e = .returned (.tuple #[.slice A us.length c, .slice (some ⟨g, 0, none⟩) 3 3]) ∧ SliceOf w' 1 vI (.slice A us.length c) us ∧ TriS w' g ∧ Below U2.heap.size U2 w' := fun Q hQ => (drawFits_any cs _ Q (h0.keep (chain BU hQ) (Nat.le_refl _))).mono fun _ _ ⟨A, c, us, g, he, h1, _, h3, hb⟩ => ⟨A, c, us, g, he, h1, h3, chain hQ hb⟩
  have hvt : decide (0 < vv) = th := by rw [hvv, hth]; exact vol_pos _
  clear hpb hgv hvv hcv hth
  have HVT := Lib.hid hvt
  clear hvt hne1 hne2 hne3 hne4
  have hne1 : w1.heap.size ≠ w1.heap.size + 2 + 1 := by omega
  have hne2 := hne1
  have hne3 := hne1
  have hne4 := hne1
  go_wp2_with fail
  go_region_held3 (fun Q => Q.cell? ⟨w1.heap.size, 0, none⟩ = some (.int .i64 a) ∧ Q.cell? ⟨w1.heap.size, 1, none⟩ = some (.int .i64 b) ∧ Q.cell? ⟨w1.heap.size, 2, none⟩ = some (.string t) ∧ Q.cell? ⟨w1.heap.size, 3, none⟩ = some (.string f) ∧ Q.cell? ⟨w1.heap.size, 4, none⟩ = some (.int .i64 wt) ∧ Q.cell? ⟨w1.heap.size, 5, none⟩ = some (.slice (some ⟨ga, off, none⟩) 3 c) ∧ Q.cell? ⟨w1.heap.size, 6, none⟩ = some (.int .i64 vl) ∧ Below U2.heap.size U2 Q) (((try go_split_ands); refine ⟨?_, ?_, ?_, ?_, ?_, ?_, ?_, ?_⟩ <;> (repeat' (first | with_reducible assumption | with_reducible refine cell_drew ?_ | with_reducible refine cell_far' ?_ hne1 _ | with_reducible refine cell_far' ?_ hne2 _ | with_reducible refine cell_far' ?_ hne3 _ | with_reducible refine cell_far' ?_ hne4 _ | with_reducible refine cell_alloc' ?_ _ | with_reducible refine cell_keep (by assumption) ?_ | with_reducible refine slice_drew ?_ | with_reducible refine slice_keep (by assumption) ?_ | with_reducible refine Below.drew ?_ | with_reducible refine chain' (by assumption) ?_)))) ((first | (go_at_call 31; (try go_split_ands); (with_reducible refine (pI _ (by assumption)).mono ?_); rintro e w' ⟨rfl, hb'⟩) | (go_at_call 29; (try go_split_ands); (with_reducible refine (pS _ (by assumption)).mono ?_); rintro e w' ⟨rfl, hb'⟩)))
  (try go_split_ands)
  go_wp2_with fail
  go_region_held3 (fun Q => Q.cell? ⟨w1.heap.size, 0, none⟩ = some (.int .i64 a) ∧ Q.cell? ⟨w1.heap.size, 1, none⟩ = some (.int .i64 b) ∧ Q.cell? ⟨w1.heap.size, 2, none⟩ = some (.string t) ∧ Q.cell? ⟨w1.heap.size, 3, none⟩ = some (.string f) ∧ Q.cell? ⟨w1.heap.size, 4, none⟩ = some (.int .i64 wt) ∧ Q.cell? ⟨w1.heap.size, 5, none⟩ = some (.slice (some ⟨ga, off, none⟩) 3 c) ∧ Q.cell? ⟨w1.heap.size, 6, none⟩ = some (.int .i64 vl) ∧ Q.cell? ⟨w1.heap.size + 1, 0, none⟩ = some (.int .i64 a) ∧ Q.cell? ⟨w1.heap.size + 1, 1, none⟩ = some (.int .i64 b) ∧ Q.cell? ⟨w1.heap.size + 1, 2, none⟩ = some (.string t) ∧ Q.cell? ⟨w1.heap.size + 1, 3, none⟩ = some (.string f) ∧ Q.cell? ⟨w1.heap.size + 1, 4, none⟩ = some (.int .i64 wt) ∧ Q.cell? ⟨w1.heap.size + 1, 5, none⟩ = some (.slice (some ⟨w1.heap.size + 2, 0, none⟩) 3 3) ∧ Q.cell? ⟨w1.heap.size + 1, 6, none⟩ = some (.int .i64 vl) ∧ Q.cell? ⟨w1.heap.size + 2 + 1, 0, none⟩ = some (.int .i64 a) ∧ Q.cell? ⟨w1.heap.size + 2 + 1, 1, none⟩ = some (.int .i64 b) ∧ Q.cell? ⟨w1.heap.size + 2 + 1, 2, none⟩ = some (.string t) ∧ Q.cell? ⟨w1.heap.size + 2 + 1, 3, none⟩ = some (.string f) ∧ Q.cell? ⟨w1.heap.size + 2 + 1, 4, none⟩ = some (.int .i64 wt) ∧ Q.cell? ⟨w1.heap.size + 2 + 1, 5, none⟩ = some (.slice (some ⟨U.heap.size, 0, none⟩) 3 3) ∧ Q.cell? ⟨w1.heap.size + 2 + 1, 6, none⟩ = some (.int .i64 vl) ∧ Below U2.heap.size U2 Q) (((try go_split_ands); refine ⟨?_, ?_, ?_, ?_, ?_, ?_, ?_, ?_, ?_, ?_, ?_, ?_, ?_, ?_, ?_, ?_, ?_, ?_, ?_, ?_, ?_, ?_⟩ <;> (repeat' (first | with_reducible assumption | with_reducible refine cell_drew ?_ | with_reducible refine cell_far' ?_ hne1 _ | with_reducible refine cell_far' ?_ hne2 _ | with_reducible refine cell_far' ?_ hne3 _ | with_reducible refine cell_far' ?_ hne4 _ | with_reducible refine cell_alloc' ?_ _ | with_reducible refine cell_keep (by assumption) ?_ | with_reducible refine slice_drew ?_ | with_reducible refine slice_keep (by assumption) ?_ | with_reducible refine Below.drew ?_ | with_reducible refine chain' (by assumption) ?_)))) ((first | (go_at_call 21; (try go_split_ands); (with_reducible refine (gQ _ (by assumption)).mono ?_); rintro e w' ⟨rfl, hb'⟩) | (go_at_call 21; (try go_split_ands); (with_reducible refine (gP _ (by assumption)).mono ?_); rintro e w' ⟨rfl, hb'⟩) | (go_at_call 27; (try go_split_ands); (with_reducible refine (vR _ (by assumption)).mono ?_); rintro e w' ⟨rfl, hb'⟩) | (go_at_call 27; (try go_split_ands); (with_reducible refine (vP _ (by assumption)).mono ?_); rintro e w' ⟨rfl, hb'⟩) | (go_at_call 31; (try go_split_ands); (with_reducible refine (qI _ (by assumption)).mono ?_); rintro e w' ⟨rfl, hb'⟩) | (go_at_call 31; (try go_split_ands); (with_reducible refine (pI _ (by assumption)).mono ?_); rintro e w' ⟨rfl, hb'⟩) | (go_at_call 34; (try go_split_ands); (with_reducible refine (cR _ (by assumption)).mono ?_); rintro e w' ⟨rfl, hb'⟩) | (go_at_call 34; (try go_split_ands); (with_reducible refine (cP _ (by assumption)).mono ?_); rintro e w' ⟨rfl, hb'⟩)))
  (try go_split_ands)
  go_wp2_with fail
  refine (DF _ (by assumption)).mono ?_
  rintro e w2 ⟨A2, c2, us, g2, rfl, sa, ⟨ys, hys, -, sb⟩, D2⟩
  have P5 := cell_keep D2 p5
  have Q5 := cell_keep D2 q5
  clear pI pS qI gP gQ vR cP cR p0 q0 r0 p1 q1 r1 p2 q2 r2 p3 q3 r3 p4 q4 r4 p5 q5 r5 p6 q6 r6
  by_cases h3a : us.length = 3
  rotate_left
  · have h3' : ((us.length : Int) == 3) = false := by simp; omega
    go_wp2_with fail
    go_quiet (fail)
    obtain ⟨w5, hw5⟩ : ∃ w5, w5 = w2.drewN nq := ⟨_, rfl⟩
    rw [← hw5]
    replace P5 : w5.cell? ⟨w1.heap.size, 5, none⟩ = some (.slice (some ⟨ga, off, none⟩) 3 c) := by rw [hw5]; exact P5
    replace Q5 : w5.cell? ⟨w1.heap.size + 1, 5, none⟩ = some (.slice (some ⟨w1.heap.size + 2, 0, none⟩) 3 3) := by rw [hw5]; exact Q5
    have D5 : Below U2.heap.size U2 w5 := by rw [hw5]; exact below_drewN D2 _
    clear hw5 D0
    go_wp2_with fail
    go_region_held3 (fun Q => Q.cell? ⟨w1.heap.size, 5, none⟩ = some (.slice (some ⟨ga, off, none⟩) 3 c) ∧ Q.cell? ⟨w1.heap.size + 1, 5, none⟩ = some (.slice (some ⟨w1.heap.size + 2, 0, none⟩) 3 3) ∧ Below U2.heap.size U2 Q) (((try go_split_ands); refine ⟨?_, ?_, ?_⟩ <;> (repeat' (first | with_reducible assumption | with_reducible refine cell_drew ?_ | with_reducible refine cell_far' ?_ hne1 _ | with_reducible refine cell_far' ?_ hne2 _ | with_reducible refine cell_far' ?_ hne3 _ | with_reducible refine cell_far' ?_ hne4 _ | with_reducible refine cell_alloc' ?_ _ | with_reducible refine cell_keep (by assumption) ?_ | with_reducible refine slice_drew ?_ | with_reducible refine slice_keep (by assumption) ?_ | with_reducible refine Below.drew ?_ | with_reducible refine chain' (by assumption) ?_)))) ((first | (go_at_call 23; (try go_split_ands); (with_reducible refine (fPQ _ (by assumption)).mono ?_); rintro e w' ⟨rfl, hb'⟩) | (go_at_call 27; (try go_split_ands); (with_reducible refine (vP _ (by assumption)).mono ?_); rintro e w' ⟨rfl, hb'⟩)))
    (try go_split_ands)
    go_wp2_with fail
    go_ret
    exact ⟨ret_bool (by rw [HVT.out]; simp), chain BU (by assumption)⟩
  obtain ⟨l, m, n, rfl⟩ := quietThree h3a
  simp only [List.length_cons, List.length_nil, Nat.zero_add] at sa ⊢
  have sa' := Lib.hid sa
  obtain ⟨g3, off3, rfl, -, hg3, l0, l1, l2⟩ := slice3_at sa
  obtain ⟨fv, hfv⟩ : ∃ fv, fv = fits [l, m, n] ys := ⟨_, rfl⟩
  have CF1 := fun (Q : World) (hQ : Below w2.heap.size w2 Q) => fitsI [l, m, n] ys _ _ Q (sa'.out.keep hQ (Nat.le_refl _)) (sb.keep hQ (Nat.le_refl _))
  have CF2 := fun (Q : World) (bb : Nat) (hs : SliceOf Q 1 vI (.slice (some ⟨bb, 0, none⟩) 3 3) [n, m, l]) (hQ : Below w2.heap.size w2 Q) => fitsI [n, m, l] ys _ _ Q hs (sb.keep hQ (Nat.le_refl _))
  rw [← hfv] at CF1
  rw [← fits_perm (perm_back l m n), ← hfv] at CF2
  have hlit := slice_drew (tri_new w2 n m l)
  clear hfv sa h3a
  clear D0
  have D22 : Below w2.heap.size w2 w2 := Below.refl _ _
  go_wp2_with fail
  go_region_held3 (fun Q => Q.cell? ⟨w1.heap.size, 5, none⟩ = some (.slice (some ⟨ga, off, none⟩) 3 c) ∧ Q.cell? ⟨w1.heap.size + 1, 5, none⟩ = some (.slice (some ⟨w1.heap.size + 2, 0, none⟩) 3 3) ∧ Q.cell? ⟨g3, off3, none⟩ = some (.int .i64 l) ∧ Q.cell? ⟨g3, off3 + 1, none⟩ = some (.int .i64 m) ∧ Q.cell? ⟨g3, off3 + 2, none⟩ = some (.int .i64 n) ∧ Below w2.heap.size w2 Q) (((try go_split_ands); refine ⟨?_, ?_, ?_, ?_, ?_, ?_⟩ <;> (repeat' (first | with_reducible assumption | with_reducible refine cell_drew ?_ | with_reducible refine cell_far' ?_ hne1 _ | with_reducible refine cell_far' ?_ hne2 _ | with_reducible refine cell_far' ?_ hne3 _ | with_reducible refine cell_far' ?_ hne4 _ | with_reducible refine cell_alloc' ?_ _ | with_reducible refine cell_keep (by assumption) ?_ | with_reducible refine slice_drew ?_ | with_reducible refine slice_keep (by assumption) ?_ | with_reducible refine Below.drew ?_ | with_reducible refine below_allocT ?_ _ | with_reducible refine chain' (by assumption) ?_)))) ((first | (go_at_call 23; (try go_split_ands); (with_reducible refine (CF1 _ (by assumption)).mono ?_); rintro e w' ⟨rfl, hb'⟩; try (have hsl := slice_keep hb' hlit)) | (go_at_call 23; (try go_split_ands); (with_reducible refine (CF2 _ _ hsl (by assumption)).mono ?_); rintro e w' ⟨rfl, hb'⟩) | (go_at_call 23; (try go_split_ands); (with_reducible refine (CF2 _ _ (tri_new _ _ _ _) (by assumption)).mono ?_); rintro e w' ⟨rfl, hb'⟩)))
  all_goals
    (try go_split_ands)
    clear D22 CF1 CF2 hlit sb sa'
    go_wp2_with fail
    go_region_held3 (fun Q => Q.cell? ⟨w1.heap.size, 5, none⟩ = some (.slice (some ⟨ga, off, none⟩) 3 c) ∧ Q.cell? ⟨w1.heap.size + 1, 5, none⟩ = some (.slice (some ⟨w1.heap.size + 2, 0, none⟩) 3 3) ∧ Below U2.heap.size U2 Q) (((try go_split_ands); refine ⟨?_, ?_, ?_⟩ <;> (repeat' (first | with_reducible assumption | with_reducible refine cell_drew ?_ | with_reducible refine cell_far' ?_ hne1 _ | with_reducible refine cell_far' ?_ hne2 _ | with_reducible refine cell_far' ?_ hne3 _ | with_reducible refine cell_far' ?_ hne4 _ | with_reducible refine cell_alloc' ?_ _ | with_reducible refine cell_keep (by assumption) ?_ | with_reducible refine slice_drew ?_ | with_reducible refine slice_keep (by assumption) ?_ | with_reducible refine Below.drew ?_ | with_reducible refine chain' (by assumption) ?_)))) ((first | (go_at_call 23; (try go_split_ands); (with_reducible refine (fPQ _ (by assumption)).mono ?_); rintro e w' ⟨rfl, hb'⟩) | (go_at_call 27; (try go_split_ands); (with_reducible refine (vP _ (by assumption)).mono ?_); rintro e w' ⟨rfl, hb'⟩)))
    (try go_split_ands)
    go_wp2_with fail
    go_ret
    exact ⟨ret_bool (by rw [HVT.out]; simp), chain BU (by assumption)⟩
end Go.Proofs.Yteolobffmldfhaa
