/- The law FnExactParseParcel walked: it returns true. The condition: the library's variables read as their initialisers lay them. -/
import Derived.Test.YteicnjemaemijaaGreatDoorParsePar
import Derived.Test.YteicnjemaemijaaGreatDoorMarkPar
namespace Go.Proofs.YteicnjemaemijaaGreatDoor
open Go.RowKit Go.PlainAid
set_option maxRecDepth 100000
set_option linter.unusedVariables false
theorem of_laidQ {W : World} (h : laidMetH Tryz.prog Rows.fnExactParseParcelRow.laid W) : Errs W := by
  rw [MakeChecks.laidMetH_plain _ _ _ (by kernel_rfl)] at h
  have h0 := tabs_of h.tail.tail
  have h1 := h.tail.tail.tail.tail
  obtain ⟨a1, s1, v1, -, -, -⟩ := laid_sentinel h1 gRan tErr2 Tryz.underlying59 rowES Tryz.underlying147 Tryz.underlying149 rfl rfl Tryz.underlying9 cES cStr
  obtain ⟨a2, s2, v2, -, -, -⟩ := laid_sentinel h1.tail gSyn tErr Tryz.underlying59 rowES Tryz.underlying147 Tryz.underlying149 rfl rfl Tryz.underlying9 cES cStr
  exact ⟨h0, ⟨_, _, v2⟩, _, _, v1⟩
set_option maxHeartbeats 6400000 in
theorem walk_ExactParseParcel (v0 : Value) (w : World) (p0 : VStr v0) (h : Errs w) (hsh : w.ShapedOpen Tryz.prog) : Calls Tryz.prog 3 #[v0] w fun e w' => e = .returned (.bool true) ∧ Below w.heap.size w w' := by
  obtain ⟨s, rfl, hs⟩ := p0
  unfold maxLen at hs
  have hm := maxL_of hsh
  clear hsh
  by_cases hb : 1048576 < (s.size : Int)
  · go_enter Tryz.func3, Tryz.ntmps3
    go_wp2_with fail
    go_ret
    exact ⟨rfl, Below.refl _ _⟩
  have hsl := data_len s
  go_enter Tryz.func3, Tryz.ntmps3
  go_wp2_with fail
  refine (parseParS s _ (by omega) h.1).mono ?_
  rintro e w1 ⟨⟨⟨d1, d2, d3⟩, f1, wt, xs, vl⟩, V1, ok, rfl, HT, o1, zd, zs, zn, b1⟩
  simp only at o1 zd zs zn ⊢
  have hn : xs.length ≤ 1048577 := by omega
  clear zn hsl
  obtain ⟨A1, c1, rfl, -, -⟩ := o1.form
  go_wp2_with fail
  obtain ⟨X, hX⟩ : ∃ X, X = w1.alloc (.cells #[.int .i64 d1, .int .i64 d2, .string d3, .string f1, .int .i64 wt, .slice A1 xs.length c1, .int .i64 vl] 26) := ⟨_, rfl⟩
  rw [← hX]
  obtain ⟨q1, hq1⟩ : ∃ q1, q1 = w1.heap.size := ⟨_, rfl⟩
  rw [← hq1]
  have K : Box X q1 26 #[.int .i64 d1, .int .i64 d2, .string d3, .string f1, .int .i64 wt, .slice A1 xs.length c1, .int .i64 vl] := by rw [hX, hq1]; exact Box.new _ _ _
  have bX : Below w1.heap.size w1 X := by rw [hX]; go_grown
  have zX := bX.size
  clear hX hq1
  replace o1 := o1.keep bX (Nat.le_refl _)
  have KX := K
  have C1 := chain b1 bX
  clear b1 bX
  refine (parseParI s _ (by omega) (h.keep C1) (hm.keep C1)).mono ?_
  rintro e w2 ⟨d', V2, ok2, rfl, HT2, o2, -, -, -, b2⟩
  obtain ⟨hd, rfl⟩ := IsPar.unique HT.out HT2.out
  subst hd
  simp only at o2 ⊢
  clear HT2
  obtain ⟨A2, c2, rfl, -, -⟩ := o2.form
  have D2 := b2
  have z2 := b2.size
  replace K := K.keep b2
  have lt2 := fun z (hz : (Value.slice A2 xs.length c2).ownBlock = some z) => World.ownsRow.lt o2 z hz
  have n1 := K.lt
  have k0 : w2.cell? ⟨q1, 0, none⟩ = some (.int .i64 d1) := K.cell 0
  have k1 : w2.cell? ⟨q1, 1, none⟩ = some (.int .i64 d2) := K.cell 1
  have k2 : w2.cell? ⟨q1, 2, none⟩ = some (.string d3) := K.cell 2
  have k3 : w2.cell? ⟨q1, 3, none⟩ = some (.string f1) := K.cell 3
  have k4 : w2.cell? ⟨q1, 4, none⟩ = some (.int .i64 wt) := K.cell 4
  have k5 : w2.cell? ⟨q1, 5, none⟩ = some (.slice A1 xs.length c1) := K.cell 5
  have k6 : w2.cell? ⟨q1, 6, none⟩ = some (.int .i64 vl) := K.cell 6
  go_wp2_with fail
  obtain ⟨Y, hY⟩ : ∃ Y, Y = w2.alloc (.cells #[.int .i64 d1, .int .i64 d2, .string d3, .string f1, .int .i64 wt, .slice A2 xs.length c2, .int .i64 vl] 26) := ⟨_, rfl⟩
  rw [← hY]
  obtain ⟨q2, hq2⟩ : ∃ q2, q2 = w2.heap.size := ⟨_, rfl⟩
  rw [← hq2]
  have M : Box Y q2 26 #[.int .i64 d1, .int .i64 d2, .string d3, .string f1, .int .i64 wt, .slice A2 xs.length c2, .int .i64 vl] := by rw [hY, hq2]; exact Box.new _ _ _
  have bY : Below w2.heap.size w2 Y := by rw [hY]; go_grown
  have zY := bY.size
  have NE2 := Lib.hid (show ∀ z, (Value.slice A2 xs.length c2).ownBlock = some z → some q2 ≠ some z from fun z hz e => by have := (lt2 z hz).2; injection e with e; omega)
  clear hY hq2
  clear k0 k1 k2 k3 k4 k5 k6 n1
  replace o2 := o2.keep bY (Nat.le_refl _)
  replace K := K.keep bY
  replace D2 := chain D2 bY
  clear b2 bY lt2
  refine (eqParcel_same d1 d2 d3 f1 wt xs vl _ _ _ (o2.slice vI_len (by omega)) ((o1.keep D2 (Nat.le_refl _)).slice vI_len (by omega))).mono ?_
  rintro e w3 ⟨rfl, b3⟩
  replace o2 := o2.keep b3 (Nat.le_refl _)
  replace K := K.keep b3
  replace M := M.keep b3
  replace D2 := chain D2 b3
  have z3 := b3.size
  clear b3
  have eok : (ok != ok) = false := by simp
  have n2 := M.lt
  have m0 : w3.cell? ⟨q2, 0, none⟩ = some (.int .i64 d1) := M.cell 0
  have m1 : w3.cell? ⟨q2, 1, none⟩ = some (.int .i64 d2) := M.cell 1
  have m2 : w3.cell? ⟨q2, 2, none⟩ = some (.string d3) := M.cell 2
  have m3 : w3.cell? ⟨q2, 3, none⟩ = some (.string f1) := M.cell 3
  have m4 : w3.cell? ⟨q2, 4, none⟩ = some (.int .i64 wt) := M.cell 4
  have m5 : w3.cell? ⟨q2, 5, none⟩ = some (.slice A2 xs.length c2) := M.cell 5
  have m6 : w3.cell? ⟨q2, 6, none⟩ = some (.int .i64 vl) := M.cell 6
  obtain ⟨y, hy⟩ : ∃ y : Int, y = ((1 + xs.length : Nat) : Int) := ⟨_, rfl⟩
  have y0 : ¬ y < 0 := by omega
  have MK := markPar_any d1 d2 d3 f1 wt xs vl _ _ w3 o2 (by omega) (by omega)
  have HD := fun (Q : World) (s : SliceOf Q 1 vI (.slice A2 xs.length c2) (marksI 1 xs.length)) => heldPar_any d1 d2 d3 f1 wt xs.length vl _ Q s (by omega)
  rw [← hy] at MK HD
  have HH := Lib.hid HD
  clear HD hy
  go_wp2_with fail
  refine MK.mono ?_
  rintro e w4 ⟨rfl, mk, g4⟩
  clear MK m0 m1 m2 m3 m4 m5 m6 n2
  have D4 := D2.trans (o2.grownM g4 (by omega))
  have z4 := g4.size
  replace M := M.grown g4 (fun e => NE2.out q2 e.symm rfl)
  clear o2 g4 D2 K NE2
  have n2 := M.lt
  have m0 : w4.cell? ⟨q2, 0, none⟩ = some (.int .i64 d1) := M.cell 0
  have m1 : w4.cell? ⟨q2, 1, none⟩ = some (.int .i64 d2) := M.cell 1
  have m2 : w4.cell? ⟨q2, 2, none⟩ = some (.string d3) := M.cell 2
  have m3 : w4.cell? ⟨q2, 3, none⟩ = some (.string f1) := M.cell 3
  have m4 : w4.cell? ⟨q2, 4, none⟩ = some (.int .i64 wt) := M.cell 4
  have m5 : w4.cell? ⟨q2, 5, none⟩ = some (.slice A2 xs.length c2) := M.cell 5
  have m6 : w4.cell? ⟨q2, 6, none⟩ = some (.int .i64 vl) := M.cell 6
  go_wp2_with fail
  refine (HH.out _ (mk.slice vI_len (by omega))).mono ?_
  rintro e w5 ⟨rfl, b5⟩
  clear m0 m1 m2 m3 m4 m5 m6 n2
  replace M := M.keep b5
  replace mk := mk.keep b5 (Nat.le_refl _)
  have D5 := chain D4 b5
  have z5 := b5.size
  clear b5 D4
  go_wp2_with fail
  have C5 := chain C1 D5
  refine (parseParI s _ (by omega) (h.keep C5) (hm.keep C5)).mono ?_
  rintro e w6 ⟨d', V3, ok3, rfl, HT3, o3, -, -, -, b6⟩
  obtain ⟨hd, rfl⟩ := IsPar.unique HT.out HT3.out
  subst hd
  simp only at o3 ⊢
  clear HT3 C5
  obtain ⟨A3, c3, rfl, -, -⟩ := o3.form
  replace M := M.keep b6
  replace mk := mk.keep b6 (Nat.le_refl _)
  have D6 := chain D5 b6
  have z6 := b6.size
  clear b6 D5
  have K := KX.keep D6
  have n1 := K.lt
  have k0 : w6.cell? ⟨q1, 0, none⟩ = some (.int .i64 d1) := K.cell 0
  have k1 : w6.cell? ⟨q1, 1, none⟩ = some (.int .i64 d2) := K.cell 1
  have k2 : w6.cell? ⟨q1, 2, none⟩ = some (.string d3) := K.cell 2
  have k3 : w6.cell? ⟨q1, 3, none⟩ = some (.string f1) := K.cell 3
  have k4 : w6.cell? ⟨q1, 4, none⟩ = some (.int .i64 wt) := K.cell 4
  have k5 : w6.cell? ⟨q1, 5, none⟩ = some (.slice A1 xs.length c1) := K.cell 5
  have k6 : w6.cell? ⟨q1, 6, none⟩ = some (.int .i64 vl) := K.cell 6
  go_wp2_with fail
  obtain ⟨Q, hQ⟩ : ∃ Q, Q = w6.alloc (.cells #[.int .i64 d1, .int .i64 d2, .string d3, .string f1, .int .i64 wt, .slice A3 xs.length c3, .int .i64 vl] 26) := ⟨_, rfl⟩
  rw [← hQ]
  obtain ⟨q3, hq3⟩ : ∃ q3, q3 = w6.heap.size := ⟨_, rfl⟩
  rw [← hq3]
  have N : Box Q q3 26 #[.int .i64 d1, .int .i64 d2, .string d3, .string f1, .int .i64 wt, .slice A3 xs.length c3, .int .i64 vl] := by rw [hQ, hq3]; exact Box.new _ _ _
  have bQ : Below w6.heap.size w6 Q := by rw [hQ]; go_grown
  have zQ := bQ.size
  clear hQ hq3
  clear k0 k1 k2 k3 k4 k5 k6 n1
  replace o3 := o3.keep bQ (Nat.le_refl _)
  replace M := M.keep bQ
  replace mk := mk.keep bQ (Nat.le_refl _)
  have D7 := chain D6 bQ
  clear bQ D6
  refine (eqParcel_same d1 d2 d3 f1 wt xs vl _ _ _ (o3.slice vI_len (by omega)) ((o1.keep D7 (Nat.le_refl _)).slice vI_len (by omega))).mono ?_
  rintro e w8 ⟨rfl, b8⟩
  replace M := M.keep b8
  replace mk := mk.keep b8 (Nat.le_refl _)
  have D8 := chain D7 b8
  have z8 := b8.size
  clear b8 D7 o3
  have n2 := M.lt
  have m0 : w8.cell? ⟨q2, 0, none⟩ = some (.int .i64 d1) := M.cell 0
  have m1 : w8.cell? ⟨q2, 1, none⟩ = some (.int .i64 d2) := M.cell 1
  have m2 : w8.cell? ⟨q2, 2, none⟩ = some (.string d3) := M.cell 2
  have m3 : w8.cell? ⟨q2, 3, none⟩ = some (.string f1) := M.cell 3
  have m4 : w8.cell? ⟨q2, 4, none⟩ = some (.int .i64 wt) := M.cell 4
  have m5 : w8.cell? ⟨q2, 5, none⟩ = some (.slice A2 xs.length c2) := M.cell 5
  have m6 : w8.cell? ⟨q2, 6, none⟩ = some (.int .i64 vl) := M.cell 6
  go_wp2_with fail
  refine (HH.out _ (mk.slice vI_len (by omega))).mono ?_
  rintro e w9 ⟨rfl, b9⟩
  have C9 := chain C1 (chain D8 b9)
  clear b9 D8 m0 m1 m2 m3 m4 m5 m6 n2
  go_wp2_with fail
  go_ret
  exact ⟨rfl, C9⟩
end Go.Proofs.YteicnjemaemijaaGreatDoor
