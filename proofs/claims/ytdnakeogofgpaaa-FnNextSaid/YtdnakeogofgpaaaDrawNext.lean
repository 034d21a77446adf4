/- What the reference's draws for the next and the last trip answer. No condition. -/
import Derived.Test.YtdnakeogofgpaaaDrawAnyNet
namespace Go.Proofs.Ytdnakeogofgpaaa
open Go.RowKit Go.PlainAid
set_option maxRecDepth 100000
set_option linter.unusedVariables false
set_option maxHeartbeats 1600000 in
theorem time_any (C : Nat) (w : World) (hc : Cur C w) : Calls Try.prog 35 #[.pointer (some ⟨C, 0, none⟩)] w fun e w' => ∃ x : Int, e = .returned (.int .i64 x) ∧ okI x ∧ Cur C w' ∧ Saves C w w' := by
  go_enter Try.func35, Try.ntmps35
  go_wp2_with fail
  refine (once_any C 8 _ hc (by unfold okI; omega)).mono ?_
  rintro e w1 ⟨u, rfl, c1, s1⟩
  cases u
  · go_wp2_with fail
    refine (below_any C 500 _ c1 (by unfold okI; omega)).mono ?_
    rintro e w2 ⟨x, rfl, x0, x1, x2, c2, s2⟩
    have x3 := x2 (by omega)
    clear x1 x2
    go_wp2_with fail
    go_ret
    exact ⟨_, rfl, by unfold okI; omega, c2, s1.trans s2⟩
  · go_wp2_with fail
    refine (odd_any C _ c1).mono ?_
    rintro e w2 ⟨x, rfl, ox, c2, s2⟩
    go_wp2_with fail
    go_ret
    exact ⟨_, rfl, ox, c2, s1.trans s2⟩
theorem Saves.belT {C : Nat} {a b : World} (h : Saves C a b) {w : World} (h0 : Below w.heap.size w a) (h1 : w.heap.size ≤ C) : Below w.heap.size w b := h0.trans (h.below h1 h0.size)
theorem slice_savesT {α : Type} {C : Nat} {w w' : World} {size : Nat} {vals : α → List Value} {v : Value} {xs : List α} (h : SliceOf w size vals v xs) (s : Saves C w w') (hb : ∀ b off n c, v = .slice (some ⟨b, off, none⟩) n c → b ≠ C) : SliceOf w' size vals v xs := by
  obtain ⟨A', c', rfl, h1, h2, h3⟩ := h
  refine ⟨A', c', rfl, h1, h2, fun hn => ?_⟩
  obtain ⟨b', off', rfl, hlt, hc⟩ := h3 hn
  exact ⟨b', off', rfl, Nat.lt_of_lt_of_le hlt s.size, fun k x j u hx hu => (s.cell (p := ⟨b', _, none⟩) hlt (hb _ _ _ _ rfl)).trans (hc k x j u hx hu)⟩
/-- A drawn network, a leg's number and a time. -/
def NextD (w : World) (e : Ending) (w' : World) : Prop := ∃ (A Ao : Option Addr) (cl co : Nat) (legs : List LegD) (off : List Int) (ch leg q : Int), e = .returned (.tuple #[.agg #[.slice A legs.length cl, .slice Ao off.length co, .int .i64 ch], .int .i64 leg, .int .i64 q]) ∧
  SliceOf w' 6 LegD.vals (.slice A legs.length cl) legs ∧ (∀ x ∈ legs, x.ok) ∧ SliceOf w' 1 vI (.slice Ao off.length co) off ∧ (∀ x ∈ off, okI x) ∧ okI ch ∧ okI leg ∧ okI q ∧ Below w.heap.size w w' ∧
  (∀ b off, A = some ⟨b, off, none⟩ → w.heap.size ≤ b) ∧ (∀ b off, Ao = some ⟨b, off, none⟩ → w.heap.size ≤ b)
set_option maxHeartbeats 12800000 in
theorem drawNext_any (cs : List Int) (v : Value) (w : World) (h : SliceOf w 1 vB v cs) : Calls Try.prog 17 #[v] w (NextD w) := by
  obtain ⟨A0, c0, rfl, hle, hm⟩ := h.form
  go_enter Try.func17, Try.ntmps17
  go_wp2_with fail
  obtain ⟨W, hW⟩ : ∃ W, W = w.alloc (.cells #[.slice none 0 0, .slice none 0 0, .int .i64 0] 35) := ⟨_, rfl⟩
  rw [← hW]
  have P : Box W w.heap.size 35 #[.slice none 0 0, .slice none 0 0, .int .i64 0] := by rw [hW]; exact Box.new _ _ _
  have bW : Below w.heap.size w W := by rw [hW]; go_grown
  have zW : W.heap.size = w.heap.size + 1 := by rw [hW]; simp
  clear hW
  refine (new_any cs _ _ (h.keep bW (Nat.le_refl _))).mono ?_
  rintro e w1 ⟨C, hC, rfl, c1, b1⟩
  replace P := P.keep b1
  have B1 := chain bW b1
  have lt1 := c1.lt
  have hWC : w.heap.size < C := by omega
  have lw1 : w.heap.size + 1 ≤ w1.heap.size := by have := b1.size; omega
  clear zW
  go_wp2_with fail
  refine (net_any C _ c1).mono ?_
  rintro e w2 ⟨lv, ov, legs, off, ch, rfl, hO, hL, n1, n12, hF, okF, lF, hch, hap, c2, s2⟩
  have z12 := s2.size
  obtain ⟨A, cl, rfl, -, -⟩ := hO.form
  obtain ⟨Ao, co, rfl, -, -⟩ := hF.form
  have sl := hO.slice Leg_len (by omega)
  have so := hF.slice vI_len (by omega)
  have aw1 : ∀ b off, A = some ⟨b, off, none⟩ → w1.heap.size ≤ b := fun b o e => own_awayL hO b o _ _ (by rw [e])
  have aw2 : ∀ b off, Ao = some ⟨b, off, none⟩ → w1.heap.size ≤ b := fun b o e => own_awayL hF b o _ _ (by rw [e])
  have hLk : ∀ x ∈ legs, x.ok := fun x hx => (hL x hx).ok
  have oF : ∀ x ∈ off, okI x := fun x hx => by have := okF x hx; unfold okI; omega
  have oc : okI ch := by unfold okI; omega
  replace P := P.saves s2 (by omega)
  have B2 := s2.belT B1 (by omega)
  clear hO hL hF okF hap s2 hch lF
  go_wp2_with fail
  obtain ⟨w3, hV⟩ : ∃ V, V = w2.alloc (.cells #[.slice A legs.length cl, .slice Ao off.length co, .int .i64 ch] 35) := ⟨_, rfl⟩
  rw [← hV]
  obtain ⟨g, hg⟩ : ∃ g, g = w2.heap.size := ⟨_, rfl⟩
  rw [← hg]
  have Q : Box w3 g 35 #[.slice A legs.length cl, .slice Ao off.length co, .int .i64 ch] := by rw [hV, hg]; exact Box.new _ _ _
  have bV : Below w2.heap.size w2 w3 := by rw [hV]; go_grown
  clear hV
  have c3 := c2.keep bV
  replace P := P.keep bV
  replace sl := sl.keep bV (Nat.le_refl _)
  replace so := so.keep bV (Nat.le_refl _)
  have B3 := chain B2 bV
  have lg := Q.lt
  have lC2 := c2.lt
  have gC : C < g := by omega
  have gP : w.heap.size < g := by omega
  clear bV c2 B2 hg
  refine (once_any C 6 _ c3 (by unfold okI; omega)).mono ?_
  rintro e w4 ⟨u, rfl, c4, s4⟩
  replace P := P.saves s4 (by omega)
  replace Q := Q.saves s4 (by omega)
  have sl4 := slice_savesT sl s4 (fun b off n c e => by injection e with e1 e2 e3; have := aw1 b off e1; omega)
  have so4 := slice_savesT so s4 (fun b o n c e => by injection e with e1 e2 e3; have := aw2 b o e1; omega)
  have B4 := s4.belT B3 (by omega)
  have z34 := s4.size
  clear sl so s4 c3 B3
  cases u
  · skip
    have q0 : w4.cell? ⟨g, 0, none⟩ = some (.slice A legs.length cl) := Q.cell 0
    have q1 : w4.cell? ⟨g, 1, none⟩ = some (.slice Ao off.length co) := Q.cell 1
    have q2 : w4.cell? ⟨g, 2, none⟩ = some (.int .i64 ch) := Q.cell 2
    go_wp2_with fail
    refine (belowN_at (w0 := w4) legs.length (by omega) (by omega) c4 (Saves.refl _ _)).mono ?_
    rintro e w5 ⟨lg0, rfl, hlg0, c5, -, s5⟩
    clear q0 q1 q2
    replace P := P.saves s5 (by omega)
    replace Q := Q.saves s5 (by omega)
    have sl5 := slice_savesT sl4 s5 (fun b off n c e => by injection e with e1 e2 e3; have := aw1 b off e1; omega)
    have so5 := slice_savesT so4 s5 (fun b o n c e => by injection e with e1 e2 e3; have := aw2 b o e1; omega)
    have B5 := s5.belT B4 (by omega)
    have z45 := s5.size
    clear sl4 so4 s5 c4 B4
    go_wp2_with fail
    refine (once_any C 8 _ c5 (by unfold okI; omega)).mono ?_
    rintro e w6 ⟨u8, rfl, c6, s6⟩
    replace P := P.saves s6 (by omega)
    replace Q := Q.saves s6 (by omega)
    have sl6 := slice_savesT sl5 s6 (fun b off n c e => by injection e with e1 e2 e3; have := aw1 b off e1; omega)
    have so6 := slice_savesT so5 s6 (fun b o n c e => by injection e with e1 e2 e3; have := aw2 b o e1; omega)
    have B6 := s6.belT B5 (by omega)
    have z56 := s6.size
    clear sl5 so5 s6 c5 B5
    cases u8
    · go_wp2_with fail
      have p0 : w6.cell? ⟨w.heap.size, 0, none⟩ = some (.slice none 0 0) := P.cell 0
      have p1 : w6.cell? ⟨w.heap.size, 1, none⟩ = some (.slice none 0 0) := P.cell 1
      have p2 : w6.cell? ⟨w.heap.size, 2, none⟩ = some (.int .i64 0) := P.cell 2
      have pf : ∀ j, w6.frozen? ⟨w.heap.size, j, none⟩ = false := fun j => P.frozen j
      have q0 : w6.cell? ⟨g, 0, none⟩ = some (.slice A legs.length cl) := Q.cell 0
      have q1 : w6.cell? ⟨g, 1, none⟩ = some (.slice Ao off.length co) := Q.cell 1
      have q2 : w6.cell? ⟨g, 2, none⟩ = some (.int .i64 ch) := Q.cell 2
      have ngC : g ≠ C := by omega
      have nPC : w.heap.size ≠ C := by omega
      have nPg : ¬ w.heap.size = g := by omega
      have ngP : ¬ g = w.heap.size := by omega
      have lP := P.lt
      go_region_with (go_at_call 35; refine (time_any C _ (curN_drew c6)).mono ?_; rintro e w20 ⟨tm, rfl, otm, c20, s20⟩; have q0' := Saves.at' s20 q0 ngC; have q1' := Saves.at' s20 q1 ngC; have q2' := Saves.at' s20 q2 ngC; have p0' := Saves.at' s20 p0 nPC; have p1' := Saves.at' s20 p1 nPC; have p2' := Saves.at' s20 p2 nPC; have pf' : ∀ j, w20.frozen? ⟨w.heap.size, j, none⟩ = false := fun j => (s20.frozen (p := ⟨w.heap.size, j, none⟩) lP nPC).trans (pf j))
      all_goals
        go_wp2_with fail
        have sl20 := slice_savesT (slice_drew sl6) s20 (fun b off n c e => by injection e with e1 e2 e3; have := aw1 b off e1; omega)
        have so20 := slice_savesT (slice_drew so6) s20 (fun b o n c e => by injection e with e1 e2 e3; have := aw2 b o e1; omega)
        have B20 := s20.belT B6.drew (by omega)
        refine bodyPost_ret (v := .tuple #[.agg #[.slice A legs.length cl, .slice Ao off.length co, .int .i64 ch], .int .i64 (lg0 : Int), .int .i64 tm]) (by simp [results, Try.results17, go_sem, p0', p1', p2']) rfl ⟨A, Ao, cl, co, legs, off, ch, (lg0 : Int), tm, rfl, ?_, hLk, ?_, oF, oc, (by unfold okI; omega), otm, ?_, fun b off e => by have := aw1 b off e; omega, fun b off e => by have := aw2 b off e; omega⟩
        · repeat' (first | with_reducible exact sl20 | with_reducible refine slice_setA ?_ ?_ _ | exact (fun b off n c e => by injection e with e1 e2 e3; have := aw1 b off e1; simp only; omega))
        · repeat' (first | with_reducible exact so20 | with_reducible refine slice_setA ?_ ?_ _ | exact (fun b o n c e => by injection e with e1 e2 e3; have := aw2 b o e1; simp only; omega))
        · repeat' (first | with_reducible exact B20 | with_reducible refine Below.setCell ?_ ?_ _ | (simp only; omega))
    · skip
      have q0 : w6.cell? ⟨g, 0, none⟩ = some (.slice A legs.length cl) := Q.cell 0
      have q1 : w6.cell? ⟨g, 1, none⟩ = some (.slice Ao off.length co) := Q.cell 1
      have q2 : w6.cell? ⟨g, 2, none⟩ = some (.int .i64 ch) := Q.cell 2
      go_wp2_with fail
      have hS := lit_slice (f := Value.int .i64) (vals := vI) (fun _ => rfl) [-1, (legs.length : Int)] 3 w6 #[.int .i64 (-1), .int .i64 (legs.length : Int)] rfl (by unfold maxLen; simp)
      have bS : Below w6.heap.size w6 (w6.alloc (.cells #[.int .i64 (-1), .int .i64 (legs.length : Int)] 3)) := by go_grown
      refine (int_any C [-1, (legs.length : Int)] _ _ (c6.keep bS) (by intro z hz; simp at hz; unfold okI; omega) (by simp) hS (fun b off n c hv => by have := c6.lt; injection hv with e1 e2 e3; injection e1 with e1; injection e1 with e1 e2; omega)).mono ?_
      rintro e w7 ⟨nn, rfl, hm8, c7, s7⟩
      have hnn : okI nn := by simp at hm8; unfold okI; omega
      replace P := (P.keep bS).saves s7 (by omega)
      replace Q := (Q.keep bS).saves s7 (by omega)
      have sl7 := slice_savesT (sl6.keep bS (Nat.le_refl _)) s7 (fun b off n c e => by injection e with e1 e2 e3; have := aw1 b off e1; omega)
      have so7 := slice_savesT (so6.keep bS (Nat.le_refl _)) s7 (fun b o n c e => by injection e with e1 e2 e3; have := aw2 b o e1; omega)
      have B7 := s7.belT (chain B6 bS) (by omega)
      clear q0 q1 q2 sl6 so6 s7 c6 B6 hS bS hm8
      go_wp2_with fail
      have p0 : w7.cell? ⟨w.heap.size, 0, none⟩ = some (.slice none 0 0) := P.cell 0
      have p1 : w7.cell? ⟨w.heap.size, 1, none⟩ = some (.slice none 0 0) := P.cell 1
      have p2 : w7.cell? ⟨w.heap.size, 2, none⟩ = some (.int .i64 0) := P.cell 2
      have pf : ∀ j, w7.frozen? ⟨w.heap.size, j, none⟩ = false := fun j => P.frozen j
      have q0 : w7.cell? ⟨g, 0, none⟩ = some (.slice A legs.length cl) := Q.cell 0
      have q1 : w7.cell? ⟨g, 1, none⟩ = some (.slice Ao off.length co) := Q.cell 1
      have q2 : w7.cell? ⟨g, 2, none⟩ = some (.int .i64 ch) := Q.cell 2
      have ngC : g ≠ C := by omega
      have nPC : w.heap.size ≠ C := by omega
      have nPg : ¬ w.heap.size = g := by omega
      have ngP : ¬ g = w.heap.size := by omega
      have lP := P.lt
      go_region_with (go_at_call 35; refine (time_any C _ (curN_drew c7)).mono ?_; rintro e w20 ⟨tm, rfl, otm, c20, s20⟩; have q0' := Saves.at' s20 q0 ngC; have q1' := Saves.at' s20 q1 ngC; have q2' := Saves.at' s20 q2 ngC; have p0' := Saves.at' s20 p0 nPC; have p1' := Saves.at' s20 p1 nPC; have p2' := Saves.at' s20 p2 nPC; have pf' : ∀ j, w20.frozen? ⟨w.heap.size, j, none⟩ = false := fun j => (s20.frozen (p := ⟨w.heap.size, j, none⟩) lP nPC).trans (pf j))
      all_goals
        go_wp2_with fail
        have sl20 := slice_savesT (slice_drew sl7) s20 (fun b off n c e => by injection e with e1 e2 e3; have := aw1 b off e1; omega)
        have so20 := slice_savesT (slice_drew so7) s20 (fun b o n c e => by injection e with e1 e2 e3; have := aw2 b o e1; omega)
        have B20 := s20.belT B7.drew (by omega)
        refine bodyPost_ret (v := .tuple #[.agg #[.slice A legs.length cl, .slice Ao off.length co, .int .i64 ch], .int .i64 nn, .int .i64 tm]) (by simp [results, Try.results17, go_sem, p0', p1', p2']) rfl ⟨A, Ao, cl, co, legs, off, ch, nn, tm, rfl, ?_, hLk, ?_, oF, oc, hnn, otm, ?_, fun b off e => by have := aw1 b off e; omega, fun b off e => by have := aw2 b off e; omega⟩
        · repeat' (first | with_reducible exact sl20 | with_reducible refine slice_setA ?_ ?_ _ | exact (fun b off n c e => by injection e with e1 e2 e3; have := aw1 b off e1; simp only; omega))
        · repeat' (first | with_reducible exact so20 | with_reducible refine slice_setA ?_ ?_ _ | exact (fun b o n c e => by injection e with e1 e2 e3; have := aw2 b o e1; simp only; omega))
        · repeat' (first | with_reducible exact B20 | with_reducible refine Below.setCell ?_ ?_ _ | (simp only; omega))
  · go_wp2_with fail
    refine (anyNet_any C _ c4).mono ?_
    rintro e w5 ⟨lv, ov, legs', off', ch', rfl, sl5', hLk', m1, m21, so5', oF', lF', oc', bw1, bw2, c5, s5⟩
    obtain ⟨A', cl', rfl, -, -⟩ := sl5'.form
    obtain ⟨Ao', co', rfl, -, -⟩ := so5'.form
    have z45 := s5.size
    replace aw1 : ∀ b off, A' = some ⟨b, off, none⟩ → w4.heap.size ≤ b := fun b o e => bw1 b o _ _ (by rw [e])
    replace aw2 : ∀ b off, Ao' = some ⟨b, off, none⟩ → w4.heap.size ≤ b := fun b o e => bw2 b o _ _ (by rw [e])
    replace P := P.saves s5 (by omega)
    replace Q := Q.saves s5 (by omega)
    have B5 := s5.belT B4 (by omega)
    clear sl4 so4 s5 c4 B4 bw1 bw2
    have q0 : w5.cell? ⟨g, 0, none⟩ = some (.slice A legs.length cl) := Q.cell 0
    have q1 : w5.cell? ⟨g, 1, none⟩ = some (.slice Ao off.length co) := Q.cell 1
    have q2 : w5.cell? ⟨g, 2, none⟩ = some (.int .i64 ch) := Q.cell 2
    have qf : ∀ j, w5.frozen? ⟨g, j, none⟩ = false := fun j => Q.frozen j
    go_upto_region 5 with fail
    obtain ⟨w6, hX⟩ : ∃ X, X = ((w5.setCell ⟨g, 0, none⟩ (.slice A' legs'.length cl')).setCell ⟨g, 1, none⟩ (.slice Ao' off'.length co')).setCell ⟨g, 2, none⟩ (.int .i64 ch') := ⟨_, rfl⟩
    rw [← hX]
    replace Q : Box w6 g 35 #[(.slice A' legs'.length cl'), (.slice Ao' off'.length co'), (.int .i64 ch')] := by rw [hX]; exact ((Q.set 0 _).set 1 _).set 2 _
    replace P : Box w6 w.heap.size 35 #[.slice none 0 0, .slice none 0 0, .int .i64 0] := by rw [hX]; exact ((P.far (by simp only; omega) _).far (by simp only; omega) _).far (by simp only; omega) _
    have sl6 : SliceOf w6 6 LegD.vals (.slice A' legs'.length cl') legs' := by rw [hX]; exact slice_setA (slice_setA (slice_setA sl5' (fun b off n c e => by injection e with e1 e2 e3; have := aw1 b off e1; simp only; omega) _) (fun b off n c e => by injection e with e1 e2 e3; have := aw1 b off e1; simp only; omega) _) (fun b off n c e => by injection e with e1 e2 e3; have := aw1 b off e1; simp only; omega) _
    have so6 : SliceOf w6 1 vI (.slice Ao' off'.length co') off' := by rw [hX]; exact slice_setA (slice_setA (slice_setA so5' (fun b o n c e => by injection e with e1 e2 e3; have := aw2 b o e1; simp only; omega) _) (fun b o n c e => by injection e with e1 e2 e3; have := aw2 b o e1; simp only; omega) _) (fun b o n c e => by injection e with e1 e2 e3; have := aw2 b o e1; simp only; omega) _
    have c6 : Cur C w6 := by rw [hX]; exact ((c5.setB (by simp only; omega) _).setB (by simp only; omega) _).setB (by simp only; omega) _
    have B6 : Below w.heap.size w w6 := by rw [hX]; exact ((B5.setCell (by simp only; omega) _).setCell (by simp only; omega) _).setCell (by simp only; omega) _
    clear hX sl5' so5' c5 B5 q0 q1 q2 qf
    have q0 : w6.cell? ⟨g, 0, none⟩ = some (.slice A' legs'.length cl') := Q.cell 0
    have q1 : w6.cell? ⟨g, 1, none⟩ = some (.slice Ao' off'.length co') := Q.cell 1
    have q2 : w6.cell? ⟨g, 2, none⟩ = some (.int .i64 ch') := Q.cell 2
    go_wp2_with fail
    refine (belowN_at (w0 := w6) legs'.length (by omega) (by omega) c6 (Saves.refl _ _)).mono ?_
    rintro e w7 ⟨lg0, rfl, hlg0, c7, -, s7⟩
    clear q0 q1 q2
    replace P := P.saves s7 (by omega)
    replace Q := Q.saves s7 (by omega)
    have sl7 := slice_savesT sl6 s7 (fun b off n c e => by injection e with e1 e2 e3; have := aw1 b off e1; omega)
    have so7 := slice_savesT so6 s7 (fun b o n c e => by injection e with e1 e2 e3; have := aw2 b o e1; omega)
    have B7 := s7.belT B6 (by omega)
    have z67 := s7.size
    clear sl6 so6 s7 c6 B6
    go_wp2_with fail
    refine (once_any C 8 _ c7 (by unfold okI; omega)).mono ?_
    rintro e w8 ⟨u8, rfl, c8, s8⟩
    replace P := P.saves s8 (by omega)
    replace Q := Q.saves s8 (by omega)
    have sl8 := slice_savesT sl7 s8 (fun b off n c e => by injection e with e1 e2 e3; have := aw1 b off e1; omega)
    have so8 := slice_savesT so7 s8 (fun b o n c e => by injection e with e1 e2 e3; have := aw2 b o e1; omega)
    have B8 := s8.belT B7 (by omega)
    have z78 := s8.size
    clear sl7 so7 s8 c7 B7
    cases u8
    · go_wp2_with fail
      have p0 : w8.cell? ⟨w.heap.size, 0, none⟩ = some (.slice none 0 0) := P.cell 0
      have p1 : w8.cell? ⟨w.heap.size, 1, none⟩ = some (.slice none 0 0) := P.cell 1
      have p2 : w8.cell? ⟨w.heap.size, 2, none⟩ = some (.int .i64 0) := P.cell 2
      have pf : ∀ j, w8.frozen? ⟨w.heap.size, j, none⟩ = false := fun j => P.frozen j
      have q0 : w8.cell? ⟨g, 0, none⟩ = some (.slice A' legs'.length cl') := Q.cell 0
      have q1 : w8.cell? ⟨g, 1, none⟩ = some (.slice Ao' off'.length co') := Q.cell 1
      have q2 : w8.cell? ⟨g, 2, none⟩ = some (.int .i64 ch') := Q.cell 2
      have ngC : g ≠ C := by omega
      have nPC : w.heap.size ≠ C := by omega
      have nPg : ¬ w.heap.size = g := by omega
      have ngP : ¬ g = w.heap.size := by omega
      have lP := P.lt
      go_region_with (go_at_call 35; refine (time_any C _ (curN_drew c8)).mono ?_; rintro e w20 ⟨tm, rfl, otm, c20, s20⟩; have q0' := Saves.at' s20 q0 ngC; have q1' := Saves.at' s20 q1 ngC; have q2' := Saves.at' s20 q2 ngC; have p0' := Saves.at' s20 p0 nPC; have p1' := Saves.at' s20 p1 nPC; have p2' := Saves.at' s20 p2 nPC; have pf' : ∀ j, w20.frozen? ⟨w.heap.size, j, none⟩ = false := fun j => (s20.frozen (p := ⟨w.heap.size, j, none⟩) lP nPC).trans (pf j))
      all_goals
        go_wp2_with fail
        have sl20 := slice_savesT (slice_drew sl8) s20 (fun b off n c e => by injection e with e1 e2 e3; have := aw1 b off e1; omega)
        have so20 := slice_savesT (slice_drew so8) s20 (fun b o n c e => by injection e with e1 e2 e3; have := aw2 b o e1; omega)
        have B20 := s20.belT B8.drew (by omega)
        refine bodyPost_ret (v := .tuple #[.agg #[.slice A' legs'.length cl', .slice Ao' off'.length co', .int .i64 ch'], .int .i64 (lg0 : Int), .int .i64 tm]) (by simp [results, Try.results17, go_sem, p0', p1', p2']) rfl ⟨A', Ao', cl', co', legs', off', ch', (lg0 : Int), tm, rfl, ?_, hLk', ?_, oF', oc', (by unfold okI; omega), otm, ?_, fun b off e => by have := aw1 b off e; omega, fun b off e => by have := aw2 b off e; omega⟩
        · repeat' (first | with_reducible exact sl20 | with_reducible refine slice_setA ?_ ?_ _ | exact (fun b off n c e => by injection e with e1 e2 e3; have := aw1 b off e1; simp only; omega))
        · repeat' (first | with_reducible exact so20 | with_reducible refine slice_setA ?_ ?_ _ | exact (fun b o n c e => by injection e with e1 e2 e3; have := aw2 b o e1; simp only; omega))
        · repeat' (first | with_reducible exact B20 | with_reducible refine Below.setCell ?_ ?_ _ | (simp only; omega))
    · skip
      have q0 : w8.cell? ⟨g, 0, none⟩ = some (.slice A' legs'.length cl') := Q.cell 0
      have q1 : w8.cell? ⟨g, 1, none⟩ = some (.slice Ao' off'.length co') := Q.cell 1
      have q2 : w8.cell? ⟨g, 2, none⟩ = some (.int .i64 ch') := Q.cell 2
      go_wp2_with fail
      have hS := lit_slice (f := Value.int .i64) (vals := vI) (fun _ => rfl) [-1, (legs'.length : Int)] 3 w8 #[.int .i64 (-1), .int .i64 (legs'.length : Int)] rfl (by unfold maxLen; simp)
      have bS : Below w8.heap.size w8 (w8.alloc (.cells #[.int .i64 (-1), .int .i64 (legs'.length : Int)] 3)) := by go_grown
      refine (int_any C [-1, (legs'.length : Int)] _ _ (c8.keep bS) (by intro z hz; simp at hz; unfold okI; omega) (by simp) hS (fun b off n c hv => by have := c8.lt; injection hv with e1 e2 e3; injection e1 with e1; injection e1 with e1 e2; omega)).mono ?_
      rintro e w9 ⟨nn, rfl, hm8, c9, s9⟩
      have hnn : okI nn := by simp at hm8; unfold okI; omega
      replace P := (P.keep bS).saves s9 (by omega)
      replace Q := (Q.keep bS).saves s9 (by omega)
      have sl9 := slice_savesT (sl8.keep bS (Nat.le_refl _)) s9 (fun b off n c e => by injection e with e1 e2 e3; have := aw1 b off e1; omega)
      have so9 := slice_savesT (so8.keep bS (Nat.le_refl _)) s9 (fun b o n c e => by injection e with e1 e2 e3; have := aw2 b o e1; omega)
      have B9 := s9.belT (chain B8 bS) (by omega)
      clear q0 q1 q2 sl8 so8 s9 c8 B8 hS bS hm8
      go_wp2_with fail
      have p0 : w9.cell? ⟨w.heap.size, 0, none⟩ = some (.slice none 0 0) := P.cell 0
      have p1 : w9.cell? ⟨w.heap.size, 1, none⟩ = some (.slice none 0 0) := P.cell 1
      have p2 : w9.cell? ⟨w.heap.size, 2, none⟩ = some (.int .i64 0) := P.cell 2
      have pf : ∀ j, w9.frozen? ⟨w.heap.size, j, none⟩ = false := fun j => P.frozen j
      have q0 : w9.cell? ⟨g, 0, none⟩ = some (.slice A' legs'.length cl') := Q.cell 0
      have q1 : w9.cell? ⟨g, 1, none⟩ = some (.slice Ao' off'.length co') := Q.cell 1
      have q2 : w9.cell? ⟨g, 2, none⟩ = some (.int .i64 ch') := Q.cell 2
      have ngC : g ≠ C := by omega
      have nPC : w.heap.size ≠ C := by omega
      have nPg : ¬ w.heap.size = g := by omega
      have ngP : ¬ g = w.heap.size := by omega
      have lP := P.lt
      go_region_with (go_at_call 35; refine (time_any C _ (curN_drew c9)).mono ?_; rintro e w20 ⟨tm, rfl, otm, c20, s20⟩; have q0' := Saves.at' s20 q0 ngC; have q1' := Saves.at' s20 q1 ngC; have q2' := Saves.at' s20 q2 ngC; have p0' := Saves.at' s20 p0 nPC; have p1' := Saves.at' s20 p1 nPC; have p2' := Saves.at' s20 p2 nPC; have pf' : ∀ j, w20.frozen? ⟨w.heap.size, j, none⟩ = false := fun j => (s20.frozen (p := ⟨w.heap.size, j, none⟩) lP nPC).trans (pf j))
      all_goals
        go_wp2_with fail
        have sl20 := slice_savesT (slice_drew sl9) s20 (fun b off n c e => by injection e with e1 e2 e3; have := aw1 b off e1; omega)
        have so20 := slice_savesT (slice_drew so9) s20 (fun b o n c e => by injection e with e1 e2 e3; have := aw2 b o e1; omega)
        have B20 := s20.belT B9.drew (by omega)
        refine bodyPost_ret (v := .tuple #[.agg #[.slice A' legs'.length cl', .slice Ao' off'.length co', .int .i64 ch'], .int .i64 nn, .int .i64 tm]) (by simp [results, Try.results17, go_sem, p0', p1', p2']) rfl ⟨A', Ao', cl', co', legs', off', ch', nn, tm, rfl, ?_, hLk', ?_, oF', oc', hnn, otm, ?_, fun b off e => by have := aw1 b off e; omega, fun b off e => by have := aw2 b off e; omega⟩
        · repeat' (first | with_reducible exact sl20 | with_reducible refine slice_setA ?_ ?_ _ | exact (fun b off n c e => by injection e with e1 e2 e3; have := aw1 b off e1; simp only; omega))
        · repeat' (first | with_reducible exact so20 | with_reducible refine slice_setA ?_ ?_ _ | exact (fun b o n c e => by injection e with e1 e2 e3; have := aw2 b o e1; simp only; omega))
        · repeat' (first | with_reducible exact B20 | with_reducible refine Below.setCell ?_ ?_ _ | (simp only; omega))
set_option maxHeartbeats 3200000 in
theorem drawLast_any (cs : List Int) (v : Value) (w : World) (h : SliceOf w 1 vB v cs) : Calls Try.prog 11 #[v] w (NextD w) := by
  obtain ⟨A0, c0, rfl, hle, hm⟩ := h.form
  go_enter Try.func11, Try.ntmps11
  go_wp2_with fail
  obtain ⟨W, hW⟩ : ∃ W, W = w.alloc (.cells #[.slice none 0 0, .slice none 0 0, .int .i64 0] 35) := ⟨_, rfl⟩
  rw [← hW]
  have P : Box W w.heap.size 35 #[.slice none 0 0, .slice none 0 0, .int .i64 0] := by rw [hW]; exact Box.new _ _ _
  have bW : Below w.heap.size w W := by rw [hW]; go_grown
  have zW : W.heap.size = w.heap.size + 1 := by rw [hW]; simp
  clear hW
  refine (drawNext_any cs _ _ (h.keep bW (Nat.le_refl _))).mono ?_
  rintro e w9 ⟨A, Ao, cl, co, legs, off, ch, leg, q, rfl, sl, hok, so, hoff, oc, oleg, oq, b9, aw1, aw2⟩
  replace P := P.keep b9
  have B9 := chain bW b9
  have p0 : w9.cell? ⟨w.heap.size, 0, none⟩ = some (.slice none 0 0) := P.cell 0
  have p1 : w9.cell? ⟨w.heap.size, 1, none⟩ = some (.slice none 0 0) := P.cell 1
  have p2 : w9.cell? ⟨w.heap.size, 2, none⟩ = some (.int .i64 0) := P.cell 2
  have pf : ∀ j, w9.frozen? ⟨w.heap.size, j, none⟩ = false := fun j => P.frozen j
  go_wp2_with fail
  refine bodyPost_ret (v := .tuple #[.agg #[.slice A legs.length cl, .slice Ao off.length co, .int .i64 ch], .int .i64 leg, .int .i64 q]) (by simp [results, Try.results11, go_sem, p0, p1, p2]) rfl ⟨A, Ao, cl, co, legs, off, ch, leg, q, rfl, ?_, hok, ?_, hoff, oc, oleg, oq, ?_, fun b off e => by have := aw1 b off e; omega, fun b off e => by have := aw2 b off e; omega⟩
  · repeat' (first | with_reducible exact sl | with_reducible refine slice_setA ?_ ?_ _ | exact (fun b off n c e => by injection e with e1 e2 e3; have := aw1 b off e1; simp only; omega))
  · repeat' (first | with_reducible exact so | with_reducible refine slice_setA ?_ ?_ _ | exact (fun b o n c e => by injection e with e1 e2 e3; have := aw2 b o e1; simp only; omega))
  · repeat' (first | with_reducible exact B9 | with_reducible refine Below.setCell ?_ ?_ _ | (simp only; omega))
end Go.Proofs.Ytdnakeogofgpaaa
