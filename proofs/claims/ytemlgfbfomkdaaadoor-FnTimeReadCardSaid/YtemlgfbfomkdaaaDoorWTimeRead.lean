/- The law FnTimeRead walked: it returns true. The condition: the library's variables read as their initialisers lay them. -/
import Derived.Test.YtemlgfbfomkdaaaDoorParseTime
import Derived.Test.YtemlgfbfomkdaaaDoorParseLeg
import Derived.Test.YtemlgfbfomkdaaaDoorDrawTimes
namespace Go.Proofs.YtemlgfbfomkdaaaDoor
open Go.RowKit Go.PlainAid
open Go.Lib (itoa decDigits decDigits_two)
set_option maxRecDepth 100000
set_option linter.unusedVariables false
theorem big_anyR (xs : List Int) (v : Value) (w : World) (h : SliceOf w 1 vB v xs) : Calls Tryd.prog 8 #[v] w fun e w' => e = .returned (.bool (decide (4096 < (xs.length : Int)))) ∧ w = w' := by
  obtain ⟨A, c, rfl, hle, hm⟩ := h.form
  go_enter Tryd.func8, Tryd.ntmps8
  go_wp2
  go_ret
  exact ⟨rfl, rfl⟩
theorem read_time_yes {t x : Int} {ok : Bool} (h0 : 0 ≤ t) (h1 : t ≤ 100000) (h : IsTime (timeOf t) x ok) : x = t ∧ ok = true := by
  rw [timeOf_yes (rng_true h0 h1)] at h
  exact h.unique (.inl ⟨rfl, h0, h1, rfl⟩)
theorem read_time_no {t x : Int} {ok : Bool} (h0 : t < 0 ∨ 100000 < t) (h : IsTime (timeOf t) x ok) : ok = false := by
  rw [timeOf_no (rng_false h0)] at h
  exact (h.unique (k := 0) (b := false) (.inr ⟨rfl, rfl, fun k _ _ => time_ne k⟩)).2
theorem legL_ne (d : LegD) : legL d ≠ [] := by unfold legL; simp
theorem read_leg_yes {d x : LegD} {ok : Bool} (hd : legG d = true) (h : IsLegT (legOf d) x ok) : x = d ∧ ok = true := by
  rw [legOf_yes hd] at h
  exact h.unique (.inl ⟨rfl, hd, rfl⟩)
theorem read_leg_no {d x : LegD} {ok : Bool} (hd : legG d = false) (h : IsLegT (legOf d) x ok) : ok = false := by
  rw [legOf_no hd] at h
  exact (h.unique (.inr ⟨rfl, rfl, fun k _ => legL_ne k⟩)).2
theorem time_short (t : Int) : (timeOf t).length ≤ 16777216 := by
  unfold timeOf
  split
  · rename_i h
    unfold timeL
    have h1 := Lib.itoa_length_le (t / 1440) (by omega) (by omega)
    have h2 := clock_len (m := t % 1440) (by omega) (by omega)
    simp only [List.length_append, List.length_cons, List.length_nil]
    omega
  · simp
theorem leg_short (d : LegD) : (legOf d).length ≤ 16777216 := by
  cases h : legG d
  · rw [legOf_no h]; simp
  · rw [legOf_yes h]
    obtain ⟨p1, p2, p3, p4, p5, p6, p7⟩ := legG_iff h
    obtain ⟨a1, a2⟩ := leg_place h
    unfold legL
    have h1 := Lib.itoa_length_le d.takes (by omega) (by omega)
    have h2 := clock_len (m := d.start) (by omega) (by omega)
    have h3 := Lib.itoa_length_le d.room (by omega) (by omega)
    have h4 := daysL_len d.days 7
    simp only [List.length_append, List.length_cons, List.length_nil]
    omega
theorem of_laidR {W : World} (h : laidMetH Tryd.prog Rows.fnTimeReadRow.laid W) : Errs W := by
  rw [MakeChecks.laidMetH_plain _ _ _ (by kernel_rfl)] at h
  have h0 := tabs_of h.tail.tail
  have h1 := h.tail.tail.tail.tail
  obtain ⟨a1, s1, v1, -, -, -⟩ := laid_sentinel h1 gRan tErr2 Tryd.underlying51 rowES Tryd.underlying112 Tryd.underlying114 rfl rfl Tryd.underlying9 cES cStr
  obtain ⟨a2, s2, v2, -, -, -⟩ := laid_sentinel h1.tail gSyn tErr Tryd.underlying51 rowES Tryd.underlying112 Tryd.underlying114 rfl rfl Tryd.underlying9 cES cStr
  exact ⟨h0, ⟨_, _, v2⟩, _, _, v1⟩
set_option maxHeartbeats 8000000 in
theorem walk_TimeRead (v0 : Value) (w : World) (h0 : VBytes w v0) (ht : Errs w) (hsh : w.ShapedOpen Tryd.prog) : Calls Tryd.prog 4 #[v0] w fun e w' => e = .returned (.bool true) ∧ Below w.heap.size w w' := by
  obtain ⟨xs, hxs, h⟩ := h0
  have hm := maxL_of hsh
  clear hsh
  obtain ⟨A, c, rfl, hle, hmm⟩ := h.form
  have hbig := fun W (hW : SliceOf W 1 vB (.slice A xs.length c) xs) => big_anyR xs _ W hW
  have HB := Lib.hid hbig; clear hbig
  cases hb : decide (4096 < (xs.length : Int))
  case true =>
    go_enter Tryd.func4, Tryd.ntmps4
    go_wp2_with fail
    refine (HB.out _ h).mono ?_
    rintro e w0 ⟨rfl, rfl⟩
    go_wp2_with fail
    go_ret
    exact ⟨rfl, Below.refl _ _⟩
  go_enter Tryd.func4, Tryd.ntmps4
  go_wp2_with fail
  refine (HB.out _ h).mono ?_
  rintro e w0 ⟨rfl, rfl⟩
  go_wp2_with fail
  clear hb HB
  refine (drawFTime_any xs _ _ h).mono ?_
  rintro e w1 ⟨t, rfl, ot, b1⟩
  have hT1 := ht.keep b1
  have HS := h.keep b1 (Nat.le_refl _)
  clear h
  go_wp2_with fail
  refine (timeI t _ ot hT1.1).mono ?_
  rintro e w2 ⟨r, rfl, HR, hr, b2⟩
  have hrz : r.size ≤ 16777216 := by rw [hr]; exact time_short t
  clear hr
  have B2 := chain b1 b2
  have hT2 := hT1.keep b2
  replace HS := HS.keep b2 (Nat.le_refl _)
  go_wp2_with fail
  refine (parseTimeI r _ hrz hT2 (hm.keep B2)).mono ?_
  rintro e w3 ⟨x, ok, rfl, HX, b3⟩
  have B3 := chain B2 b3
  replace HS := HS.keep b3 (Nat.le_refl _)
  clear hT1 hT2 b1 b2 b3 B2 hrz
  have REST : Calls Tryd.prog 11 #[.slice A xs.length c] w3 (LegDrawn w3) := drawFormatLeg_any xs _ _ HS
  have two : (0 ≤ t ∧ t ≤ 100000 ∧ x = t ∧ ok = true) ∨ ((t < 0 ∨ 100000 < t) ∧ ok = false) := by
    by_cases h0 : 0 ≤ t
    · by_cases h1 : t ≤ 100000
      · have := read_time_yes h0 h1 (HR.out ▸ HX.out); exact .inl ⟨h0, h1, this⟩
      · exact .inr ⟨.inr (by omega), read_time_no (.inr (by omega)) (HR.out ▸ HX.out)⟩
    · exact .inr ⟨.inl (by omega), read_time_no (.inl (by omega)) (HR.out ▸ HX.out)⟩
  clear HR HX ot HS
  have DONE : True := trivial
  rcases two with ⟨t0, t1, rfl, rfl⟩ | ⟨t0 | t0, rfl⟩
  all_goals
    go_wp2_with fail
    refine REST.mono ?_
    rintro e w4 ⟨f1, f2, d1, d2, d3, d4, rfl, HK, b4⟩
    have B4 := chain B3 b4
    go_wp2_with fail
    obtain ⟨V, hV⟩ : ∃ V, V = w4.alloc (.cells #[.string f1, .string f2, .int .i64 d1, .int .i64 d2, .int .i64 d3, .int .i64 d4] 30) := ⟨_, rfl⟩
    rw [← hV]
    obtain ⟨q, hq⟩ : ∃ q, q = w4.heap.size := ⟨_, rfl⟩
    rw [← hq]
    have X : Box V q 30 #[.string f1, .string f2, .int .i64 d1, .int .i64 d2, .int .i64 d3, .int .i64 d4] := by rw [hV, hq]; exact Box.new _ _ _
    have bV : Below w4.heap.size w4 V := by rw [hV]; go_grown
    clear hV hq
    have BV := chain B4 bV
    have hTV := ht.keep BV
    obtain ⟨z1, z2, -⟩ := HK.out
    simp only at z1 z2
    clear B4 b4 bV
    refine (legI f1 f2 d1 d2 d3 d4 _ z1 z2 hTV.1).mono ?_
    rintro e w5 ⟨r5, rfl, HR5, hr5, b5⟩
    have B5 := chain BV b5
    have hT5 := hTV.keep b5
    replace X := X.keep b5
    have hrz5 : r5.size ≤ 16777216 := by rw [hr5]; exact leg_short _
    clear hr5
    go_wp2_with fail
    refine (parseLegI r5 _ hrz5 hT5 (hm.keep B5)).mono ?_
    rintro e w6 ⟨⟨g1, g2, e1, e2, e3, e4⟩, ok6, rfl, HD, b6⟩
    simp only
    have B6 := chain B5 b6
    replace X := X.keep b6
    clear hT5 hTV BV B5 hrz5 b5 b6
    have n6 := X.lt
    have x0 : w6.cell? ⟨q, 0, none⟩ = some (.string f1) := X.cell 0
    have x1 : w6.cell? ⟨q, 1, none⟩ = some (.string f2) := X.cell 1
    have x2 : w6.cell? ⟨q, 2, none⟩ = some (.int .i64 d1) := X.cell 2
    have x3 : w6.cell? ⟨q, 3, none⟩ = some (.int .i64 d2) := X.cell 3
    have x4 : w6.cell? ⟨q, 4, none⟩ = some (.int .i64 d3) := X.cell 4
    have x5 : w6.cell? ⟨q, 5, none⟩ = some (.int .i64 d4) := X.cell 5
    go_wp2_with fail
    obtain ⟨U, hU⟩ : ∃ U, U = w6.alloc (.cells #[.string g1, .string g2, .int .i64 e1, .int .i64 e2, .int .i64 e3, .int .i64 e4] 30) := ⟨_, rfl⟩
    rw [← hU]
    obtain ⟨q2, hq2⟩ : ∃ q2, q2 = w6.heap.size := ⟨_, rfl⟩
    rw [← hq2]
    have Y : Box U q2 30 #[.string g1, .string g2, .int .i64 e1, .int .i64 e2, .int .i64 e3, .int .i64 e4] := by rw [hU, hq2]; exact Box.new _ _ _
    replace X : Box U q 30 #[.string f1, .string f2, .int .i64 d1, .int .i64 d2, .int .i64 d3, .int .i64 d4] := by rw [hU]; exact X.alloc _
    have bU : Below w6.heap.size w6 U := by rw [hU]; go_grown
    clear hU hq2 x0 x1 x2 x3 x4 x5 n6
    have BU := chain B6 bU
    clear B6 bU
    refine (isLegI f1 f2 d1 d2 d3 d4 _ z1 z2).mono ?_
    rintro e w7 ⟨rfl, b7⟩
    have B7 := chain BU b7
    replace X := X.keep b7
    replace Y := Y.keep b7
    clear BU b7
    cases hg : legB f1 f2 d1 d2 d3 d4
    · have hk : ok6 = false := read_leg_no (d := ⟨f1, f2, d1, d2, d3, d4⟩) hg (HR5.out ▸ HD.out)
      subst hk
      clear HR5 HD
      have HG := Lib.hid hg; clear hg
      go_wp2_with fail
      go_ret
      exact ⟨rfl, B7⟩
    · obtain ⟨hd, hk⟩ := read_leg_yes (d := ⟨f1, f2, d1, d2, d3, d4⟩) hg (HR5.out ▸ HD.out)
      subst hk
      injection hd with q1 q2 q3 q4 q5 q6
      subst q1 q2 q3 q4 q5 q6
      clear HR5 HD
      have HG := Lib.hid hg; clear hg
      have x0 : w7.cell? ⟨q, 0, none⟩ = some (.string g1) := X.cell 0
      have x1 : w7.cell? ⟨q, 1, none⟩ = some (.string g2) := X.cell 1
      have x2 : w7.cell? ⟨q, 2, none⟩ = some (.int .i64 e1) := X.cell 2
      have x3 : w7.cell? ⟨q, 3, none⟩ = some (.int .i64 e2) := X.cell 3
      have x4 : w7.cell? ⟨q, 4, none⟩ = some (.int .i64 e3) := X.cell 4
      have x5 : w7.cell? ⟨q, 5, none⟩ = some (.int .i64 e4) := X.cell 5
      have y0 : w7.cell? ⟨q2, 0, none⟩ = some (.string g1) := Y.cell 0
      have y1 : w7.cell? ⟨q2, 1, none⟩ = some (.string g2) := Y.cell 1
      have y2 : w7.cell? ⟨q2, 2, none⟩ = some (.int .i64 e1) := Y.cell 2
      have y3 : w7.cell? ⟨q2, 3, none⟩ = some (.int .i64 e2) := Y.cell 3
      have y4 : w7.cell? ⟨q2, 4, none⟩ = some (.int .i64 e3) := Y.cell 4
      have y5 : w7.cell? ⟨q2, 5, none⟩ = some (.int .i64 e4) := Y.cell 5
      have f1' : (e1 == e1) = true := by simp
      have f2' : (e2 == e2) = true := by simp
      have f3' : (e3 == e3) = true := by simp
      have f4' : (e4 == e4) = true := by simp
      have f5' : (g1.toList == g1.toList) = true := by simp
      have f6' : (g2.toList == g2.toList) = true := by simp
      go_wp2_with fail
      go_ret
      exact ⟨rfl, B7⟩
end Go.Proofs.YtemlgfbfomkdaaaDoor
