/- What the reference's draws of a time and of a leg answer. No condition. -/
import Derived.Test.YtemlgfbfomkdaaaDoorDrawAnyNet
namespace Go.Proofs.YtemlgfbfomkdaaaDoor
open Go.RowKit Go.PlainAid
set_option maxRecDepth 100000
set_option linter.unusedVariables false
theorem Saves.belD {C : Nat} {a b : World} (h : Saves C a b) {w : World} (h0 : Below w.heap.size w a) (h1 : w.heap.size ≤ C) : Below w.heap.size w b := h0.trans (h.below h1 h0.size)
theorem slice_savesD {α : Type} {C : Nat} {w w' : World} {size : Nat} {vals : α → List Value} {v : Value} {xs : List α} (h : SliceOf w size vals v xs) (s : Saves C w w') (hb : ∀ b off n c, v = .slice (some ⟨b, off, none⟩) n c → b ≠ C) : SliceOf w' size vals v xs := by
  obtain ⟨A', c', rfl, h1, h2, h3⟩ := h
  refine ⟨A', c', rfl, h1, h2, fun hn => ?_⟩
  obtain ⟨b', off', rfl, hlt, hc⟩ := h3 hn
  exact ⟨b', off', rfl, Nat.lt_of_lt_of_le hlt s.size, fun k x j u hx hu => (s.cell (p := ⟨b', _, none⟩) hlt (hb _ _ _ _ rfl)).trans (hc k x j u hx hu)⟩
theorem cell_drewD {w : World} {p : Addr} {v : Value} (h : w.cell? p = some v) : w.drew.cell? p = some v := h
def ftimeNums : List Int := [-1, 0, 59, 60, 1439, 1440, 99999, 100000, 100001]
theorem ftimeNums_ok : ∀ x ∈ ftimeNums, okI x := by unfold okI ftimeNums; decide
set_option maxHeartbeats 1600000 in
theorem drawFTime_any (cs : List Int) (v : Value) (w : World) (h : SliceOf w 1 vB v cs) : Calls Tryd.prog 9 #[v] w fun e w' => ∃ x : Int, e = .returned (.int .i64 x) ∧ okI x ∧ Below w.heap.size w w' := by
  obtain ⟨A0, c0, rfl, hle, hm⟩ := h.form
  go_enter Tryd.func9, Tryd.ntmps9
  go_wp2_with fail
  refine (new_any cs _ _ h).mono ?_
  rintro e w1 ⟨C, hC, rfl, c1, b1⟩
  go_wp2_with fail
  refine (once_any C 4 _ c1 (by unfold okI; omega)).mono ?_
  rintro e w2 ⟨u, rfl, c2, s2⟩
  have B2 := s2.belD b1 hC
  cases u
  · go_wp2_with fail
    refine (below_any C 100001 _ c2 (by unfold okI; omega)).mono ?_
    rintro e w3 ⟨x, rfl, x0, x1, x2, c3, s3⟩
    have x3 := x2 (by omega)
    clear x1 x2
    go_wp2_with fail
    go_ret
    exact ⟨_, rfl, by unfold okI; omega, s3.belD B2 hC⟩
  · go_wp2_with fail
    have hlt := c2.lt
    have hS := lit_slice (f := Value.int .i64) (vals := vI) (fun _ => rfl) ftimeNums 3 w2 #[.int .i64 (-1), .int .i64 0, .int .i64 59, .int .i64 60, .int .i64 1439, .int .i64 1440, .int .i64 99999, .int .i64 100000, .int .i64 100001] rfl (by decide)
    have b0 : Below w2.heap.size w2 (w2.alloc (.cells #[.int .i64 (-1), .int .i64 0, .int .i64 59, .int .i64 60, .int .i64 1439, .int .i64 1440, .int .i64 99999, .int .i64 100000, .int .i64 100001] 3)) := by go_grown
    refine (int_any C ftimeNums _ _ (c2.keep b0) ftimeNums_ok (by decide) hS (fun b off n c hv => by injection hv with e1 e2 e3; injection e1 with e1; injection e1 with e1 e2; omega)).mono ?_
    rintro e w3 ⟨x, rfl, hx, c3, s3⟩
    go_wp2_with fail
    go_ret
    exact ⟨_, rfl, ftimeNums_ok _ hx, s3.belD (chain B2 b0) hC⟩
/-- One leg of a drawn network: a leg's number is drawn, and the leg's cells lie there. -/
theorem pick_leg {C gl go cl : Nat} {legs : List LegD} {w2 V : World} (hc : Cur C V) (hs : Saves C w2 V) (sl : SliceOf w2 6 LegD.vals (.slice (some ⟨gl, go, none⟩) legs.length cl) legs) (hb : gl ≠ C) (h1 : 1 ≤ legs.length) (h2 : legs.length ≤ 21) :
    Calls Tryd.prog 26 #[.pointer (some ⟨C, 0, none⟩), .int .i64 (legs.length : Int)] V fun e w' => ∃ (n : Nat) (f t : ByteArray) (a b c d : Int), e = .returned (.int .i64 (n : Int)) ∧ (0 : Int) ≤ (n : Int) ∧ (n : Int) < (legs.length : Int) ∧ Hid (LegD.mk f t a b c d ∈ legs) ∧
      w'.cell? ⟨gl, go + n * 6, none⟩ = some (.string f) ∧ w'.cell? ⟨gl, go + n * 6 + 1, none⟩ = some (.string t) ∧ w'.cell? ⟨gl, go + n * 6 + 2, none⟩ = some (.int .i64 a) ∧ w'.cell? ⟨gl, go + n * 6 + 3, none⟩ = some (.int .i64 b) ∧ w'.cell? ⟨gl, go + n * 6 + 4, none⟩ = some (.int .i64 c) ∧ w'.cell? ⟨gl, go + n * 6 + 5, none⟩ = some (.int .i64 d) ∧ Cur C w' ∧ Saves C w2 w' := by
  refine (below_any C _ V hc (by unfold okI; omega)).mono ?_
  rintro e w' ⟨x, rfl, x0, x1, x2, c', s'⟩
  obtain ⟨n, rfl⟩ := Int.eq_ofNat_of_zero_le x0
  have hlt : n < legs.length := by have := x2 (by omega); omega
  obtain ⟨b_, off_, ⟨f, t, a, b, c, d⟩, e1, hb_, hy, hcell⟩ := sl.cells hlt
  injection e1 with e1; injection e1 with e1 e2; subst e1 e2
  have S' := hs.trans s'
  have q : ∀ (j : Nat) (u : Value), (LegD.vals ⟨f, t, a, b, c, d⟩)[j]? = some u → w'.cell? ⟨gl, go + n * 6 + j, none⟩ = some u := fun j u hu => (S'.cell (p := ⟨gl, go + n * 6 + j, none⟩) hb_ hb).trans (hcell j u hu)
  exact ⟨n, f, t, a, b, c, d, rfl, x0, by omega, Lib.hid (mem_of hy.out), q 0 _ rfl, q 1 _ rfl, q 2 _ rfl, q 3 _ rfl, q 4 _ rfl, q 5 _ rfl, c', S'⟩
/-- A drawn leg. -/
def LegDrawn (w : World) (e : Ending) (w' : World) : Prop := ∃ (f t : ByteArray) (a b c d : Int), e = .returned (.agg #[.string f, .string t, .int .i64 a, .int .i64 b, .int .i64 c, .int .i64 d]) ∧ Hid ((LegD.mk f t a b c d).ok) ∧ Below w.heap.size w w'
set_option maxHeartbeats 3200000 in
theorem drawIsLeg_any (cs : List Int) (v : Value) (w : World) (h : SliceOf w 1 vB v cs) : Calls Tryd.prog 30 #[v] w (LegDrawn w) := by
  obtain ⟨A0, c0, rfl, hle, hm⟩ := h.form
  go_enter Tryd.func30, Tryd.ntmps30
  go_wp2_with fail
  obtain ⟨W, hW⟩ : ∃ W, W = w.alloc (.cells #[.string ⟨#[]⟩, .string ⟨#[]⟩, .int .i64 0, .int .i64 0, .int .i64 0, .int .i64 0] 30) := ⟨_, rfl⟩
  rw [← hW]
  have P : Box W w.heap.size 30 #[.string ⟨#[]⟩, .string ⟨#[]⟩, .int .i64 0, .int .i64 0, .int .i64 0, .int .i64 0] := by rw [hW]; exact Box.new _ _ _
  have bW : Below w.heap.size w W := by rw [hW]; go_grown
  have zW : W.heap.size = w.heap.size + 1 := by rw [hW]; simp
  clear hW
  refine (new_any cs _ _ (h.keep bW (Nat.le_refl _))).mono ?_
  rintro e w1 ⟨C, hC, rfl, c1, b1⟩
  replace P := P.keep b1
  have B1 := chain bW b1
  have hWC : w.heap.size < C := by omega
  clear zW
  go_wp2_with fail
  refine (anyNet_any C _ c1).mono ?_
  rintro e w2 ⟨lv, ov, legs, off, ch, rfl, sl, hok, n1, n21, so, hoff, lF, oc, aw1, aw2, c2, s2⟩
  have B2 := s2.belD B1 (by omega)
  replace P := P.saves s2 (by omega)
  have lC := c1.lt
  obtain ⟨A, cl, e1, hcl, hcm, hh⟩ := sl
  subst e1
  obtain ⟨gl, go, rfl, hgl, hcc⟩ := hh (by omega)
  have sl : SliceOf w2 6 LegD.vals (.slice (some ⟨gl, go, none⟩) legs.length cl) legs := ⟨_, _, rfl, hcl, hcm, fun _ => ⟨gl, go, rfl, hgl, hcc⟩⟩
  have ngl : gl ≠ C := by have := aw1 _ _ _ _ rfl; omega
  obtain ⟨Ao, co, rfl, -, -⟩ := so.form
  clear hh hcc so hoff lF oc aw1 aw2
  go_wp2_with fail
  obtain ⟨V, hV⟩ : ∃ V, V = w2.alloc (.cells #[.slice (some ⟨gl, go, none⟩) legs.length cl, .slice Ao off.length co, .int .i64 ch] 60) := ⟨_, rfl⟩
  rw [← hV]
  obtain ⟨g, hg⟩ : ∃ g, g = w2.heap.size := ⟨_, rfl⟩
  rw [← hg]
  have n0 : V.cell? ⟨g, 0, none⟩ = some (.slice (some ⟨gl, go, none⟩) legs.length cl) := by rw [hV, hg]; simp [go_sem]
  have bV : Below w2.heap.size w2 V := by rw [hV]; go_grown
  have lt2 := c2.lt
  have ngC : g ≠ C := by omega
  have pl := P.lt
  have ngw : g ≠ w.heap.size := by omega
  have nglw : gl ≠ g := by omega
  replace P := P.keep bV
  have cV := c2.keep bV
  have BV := chain B2 bV
  replace sl := sl.keep bV (Nat.le_refl _)
  clear hV hg bV c2 B2 lt2 s2 pl hgl
  have nWC : w.heap.size ≠ C := by omega
  have PP := Lib.hid P; clear P
  go_region_with (go_at_call 26; refine (pick_leg (w2 := V) (curN_drew cV) (Saves.refl C V).drew sl ngl n1 n21).mono ?_; rintro e w9 ⟨n, f, t, a, b, c, d, rfl, k0, k1, HL, f0, f1, f2, f3, f4, f5, c9, s9⟩; have n0' := Saves.at' s9 n0 ngC; have p9 := PP.out.saves s9 nWC; have p0 : w9.cell? ⟨w.heap.size, 0, none⟩ = some (.string ⟨#[]⟩) := p9.cell 0; have p1 : w9.cell? ⟨w.heap.size, 1, none⟩ = some (.string ⟨#[]⟩) := p9.cell 1; have p2 : w9.cell? ⟨w.heap.size, 2, none⟩ = some (.int .i64 0) := p9.cell 2; have p3 : w9.cell? ⟨w.heap.size, 3, none⟩ = some (.int .i64 0) := p9.cell 3; have p4 : w9.cell? ⟨w.heap.size, 4, none⟩ = some (.int .i64 0) := p9.cell 4; have p5 : w9.cell? ⟨w.heap.size, 5, none⟩ = some (.int .i64 0) := p9.cell 5; have pf : ∀ j, w9.frozen? ⟨w.heap.size, j, none⟩ = false := fun j => p9.frozen j)
  all_goals
    have B9 := s9.belD BV (Nat.le_of_lt hWC)
    go_wp2_with fail
    refine bodyPost_ret (v := .agg #[.string f, .string t, .int .i64 a, .int .i64 b, .int .i64 c, .int .i64 d]) (by simp [results, Tryd.results30, go_sem, p0, p1, p2, p3, p4, p5]) rfl ⟨f, t, a, b, c, d, rfl, Lib.hid (hok _ HL.out), ?_⟩
    repeat' (first | with_reducible exact B9 | with_reducible refine Below.setCell ?_ ?_ _ | with_reducible refine Below.drew ?_ | (simp only; omega))
set_option maxHeartbeats 1600000 in
theorem drawFormatLeg_any (cs : List Int) (v : Value) (w : World) (h : SliceOf w 1 vB v cs) : Calls Tryd.prog 11 #[v] w (LegDrawn w) := by
  obtain ⟨A0, c0, rfl, hle, hm⟩ := h.form
  go_enter Tryd.func11, Tryd.ntmps11
  go_wp2_with fail
  obtain ⟨W, hW⟩ : ∃ W, W = w.alloc (.cells #[.string ⟨#[]⟩, .string ⟨#[]⟩, .int .i64 0, .int .i64 0, .int .i64 0, .int .i64 0] 30) := ⟨_, rfl⟩
  rw [← hW]
  have P : Box W w.heap.size 30 #[.string ⟨#[]⟩, .string ⟨#[]⟩, .int .i64 0, .int .i64 0, .int .i64 0, .int .i64 0] := by rw [hW]; exact Box.new _ _ _
  have bW : Below w.heap.size w W := by rw [hW]; go_grown
  clear hW
  refine (drawIsLeg_any cs _ _ (h.keep bW (Nat.le_refl _))).mono ?_
  rintro e w9 ⟨f, t, a, b, c, d, rfl, HK, b9⟩
  replace P := P.keep b9
  have B9 := chain bW b9
  have p0 : w9.cell? ⟨w.heap.size, 0, none⟩ = some (.string ⟨#[]⟩) := P.cell 0
  have p1 : w9.cell? ⟨w.heap.size, 1, none⟩ = some (.string ⟨#[]⟩) := P.cell 1
  have p2 : w9.cell? ⟨w.heap.size, 2, none⟩ = some (.int .i64 0) := P.cell 2
  have p3 : w9.cell? ⟨w.heap.size, 3, none⟩ = some (.int .i64 0) := P.cell 3
  have p4 : w9.cell? ⟨w.heap.size, 4, none⟩ = some (.int .i64 0) := P.cell 4
  have p5 : w9.cell? ⟨w.heap.size, 5, none⟩ = some (.int .i64 0) := P.cell 5
  have pf : ∀ j, w9.frozen? ⟨w.heap.size, j, none⟩ = false := fun j => P.frozen j
  go_wp2_with fail
  refine bodyPost_ret (v := .agg #[.string f, .string t, .int .i64 a, .int .i64 b, .int .i64 c, .int .i64 d]) (by simp [results, Tryd.results11, go_sem, p0, p1, p2, p3, p4, p5]) rfl ⟨f, t, a, b, c, d, rfl, HK, ?_⟩
  repeat' (first | with_reducible exact B9 | with_reducible refine Below.setCell ?_ ?_ _ | (simp only; omega))
end Go.Proofs.YtemlgfbfomkdaaaDoor
