/- The law FnParcelRead walked: it returns true. The condition: the library's variables read as their initialisers lay them. -/
import Derived.Test.YteicnjemaemijaaGreatDoorParsePar
import Derived.Test.YteicnjemaemijaaGreatDoorDrawParRead
import Derived.Deep.RegionHeld3
namespace Go.Proofs.YteicnjemaemijaaGreatDoor
open Go.RowKit Go.PlainAid
open Go.Lib (itoa decDigits decDigits_two)
set_option maxRecDepth 100000
set_option linter.unusedVariables false
theorem big_anyPR (xs : List Int) (v : Value) (w : World) (h : SliceOf w 1 vB v xs) : Calls Tryz.prog 10 #[v] w fun e w' => e = .returned (.bool (decide (4096 < (xs.length : Int)))) ∧ w = w' := by
  obtain ⟨A, c, rfl, hle, hm⟩ := h.form
  go_enter Tryz.func10, Tryz.ntmps10
  go_wp2
  go_ret
  exact ⟨rfl, rfl⟩
theorem parL_ne (d : ParcelD) : parL d ≠ [] := by unfold parL; simp
theorem read_par_yes {d x : ParcelD} {ok : Bool} (hd : parG d = true) (h : IsPar (parOf d) x ok) : x = d ∧ ok = true := by
  rw [parOf_yes hd] at h
  exact h.unique (.inl ⟨rfl, hd, rfl⟩)
theorem read_par_no {d x : ParcelD} {ok : Bool} (hd : parG d = false) (h : IsPar (parOf d) x ok) : ok = false := by
  rw [parOf_no hd] at h
  exact (h.unique (.inr ⟨rfl, rfl, fun k _ => parL_ne k⟩)).2
theorem par_short (d : ParcelD) : (parOf d).length ≤ 16777216 := by
  cases h : parG d
  · rw [parOf_no h]; simp
  · rw [parOf_yes h]
    obtain ⟨p1, p2, p3, p4, p5⟩ := parG_iff h
    obtain ⟨x, y, z, e, hx, hy, hz⟩ := three_of p4
    obtain ⟨u, v, t, g, -⟩ := plc_list p2
    unfold parL sidesL
    rw [e]
    have h0 := flab_len p1
    have h1 := Lib.itoa_length_le d.weight (by omega) (by omega)
    have h2 := Lib.itoa_length_le d.value (by omega) (by omega)
    have h3 := Lib.itoa_length_le x (by omega) (by omega)
    have h4 := Lib.itoa_length_le y (by omega) (by omega)
    have h5 := Lib.itoa_length_le z (by omega) (by omega)
    rw [g]
    simp only [List.map_cons, List.map_nil, joinC, List.length_append, List.length_cons, List.length_nil]
    omega
theorem charge_no {a b : Int} {t f : ByteArray} {wt : Int} {xs : List Int} {vl : Int} (h : parB a b t f wt xs vl = false) : chargeW a b t f wt xs vl = 0 := by unfold chargeW; rw [h]; rfl
theorem charge_yes {a b : Int} {t f : ByteArray} {wt : Int} {xs : List Int} {vl : Int} (h : parB a b t f wt xs vl = true) : wt ≤ chargeW a b t f wt xs vl := by unfold chargeW; rw [if_pos h]; omega
theorem of_laidU {W : World} (h : laidMetH Tryz.prog Rows.fnParcelReadRow.laid W) : Errs W := by
  rw [MakeChecks.laidMetH_plain _ _ _ (by kernel_rfl)] at h
  have h0 := tabs_of h.tail.tail
  have h1 := h.tail.tail.tail.tail
  obtain ⟨a1, s1, v1, -, -, -⟩ := laid_sentinel h1 gRan tErr2 Tryz.underlying59 rowES Tryz.underlying147 Tryz.underlying149 rfl rfl Tryz.underlying9 cES cStr
  obtain ⟨a2, s2, v2, -, -, -⟩ := laid_sentinel h1.tail gSyn tErr Tryz.underlying59 rowES Tryz.underlying147 Tryz.underlying149 rfl rfl Tryz.underlying9 cES cStr
  exact ⟨h0, ⟨_, _, v2⟩, _, _, v1⟩
set_option maxHeartbeats 8000000 in
theorem walk_ParcelRead (v0 : Value) (w : World) (h0 : VBytes w v0) (ht : Errs w) (hsh : w.ShapedOpen Tryz.prog) : Calls Tryz.prog 4 #[v0] w fun e w' => e = .returned (.bool true) ∧ Below w.heap.size w w' := by
  obtain ⟨cs, hcs, h⟩ := h0
  have hm := maxL_of hsh
  clear hsh
  obtain ⟨A, c, rfl, hle, hmm⟩ := h.form
  have hbig := fun W (hW : SliceOf W 1 vB (.slice A cs.length c) cs) => big_anyPR cs _ W hW
  have HB := Lib.hid hbig; clear hbig
  cases hb : decide (4096 < (cs.length : Int))
  case true =>
    go_enter Tryz.func4, Tryz.ntmps4
    go_wp2_with fail
    refine (HB.out _ h).mono ?_
    rintro e w0 ⟨rfl, rfl⟩
    go_wp2_with fail
    go_ret
    exact ⟨rfl, Below.refl _ _⟩
  go_enter Tryz.func4, Tryz.ntmps4
  go_wp2_with fail
  refine (HB.out _ h).mono ?_
  rintro e w0 ⟨rfl, rfl⟩
  go_wp2_with fail
  clear hb HB
  refine (drawFormatPar_any cs _ _ h).mono ?_
  rintro e w1 ⟨d1, d2, d3, f1, wt, A1, c1, xs, vl, rfl, -, -, zt, zf, -, sx, -, hn, -, b1⟩
  clear h
  go_wp2_with fail
  obtain ⟨X, hX⟩ : ∃ X, X = w1.alloc (.cells #[.int .i64 d1, .int .i64 d2, .string d3, .string f1, .int .i64 wt, .slice A1 xs.length c1, .int .i64 vl] 26) := ⟨_, rfl⟩
  rw [← hX]
  obtain ⟨q1, hq1⟩ : ∃ q, q = w1.heap.size := ⟨_, rfl⟩
  rw [← hq1]
  have K : Box X q1 26 #[.int .i64 d1, .int .i64 d2, .string d3, .string f1, .int .i64 wt, .slice A1 xs.length c1, .int .i64 vl] := by rw [hX, hq1]; exact Box.new _ _ _
  have bX : Below w1.heap.size w1 X := by rw [hX]; go_grown
  clear hX hq1
  have B1 := chain b1 bX
  replace sx := sx.keep bX (Nat.le_refl _)
  clear b1 bX
  refine (parI d1 d2 d3 f1 wt xs vl _ _ zt zf sx (ht.keep B1).1).mono ?_
  rintro e w2 ⟨r, rfl, HR, hr, b2⟩
  have hrz : r.size ≤ 16777216 := by rw [hr]; exact par_short _
  clear hr
  have B2 := chain B1 b2
  replace K := K.keep b2
  replace sx := sx.keep b2 (Nat.le_refl _)
  clear B1 b2
  go_wp2_with fail
  refine (parseParI r _ hrz (ht.keep B2) (hm.keep B2)).mono ?_
  rintro e w3 ⟨⟨⟨e1, e2, e3⟩, g1, et, ys, el⟩, V2, ok, rfl, HT, o2, -, -, -, b3⟩
  simp only at o2 ⊢
  have B3 := chain B2 b3
  replace K := K.keep b3
  replace sx := sx.keep b3 (Nat.le_refl _)
  replace o2 := o2.slice vI_len (by omega)
  clear B2 b3 hrz
  obtain ⟨A2, c2, rfl, -, -⟩ := o2.form
  have n1 := K.lt
  have k0 : w3.cell? ⟨q1, 0, none⟩ = some (.int .i64 d1) := K.cell 0
  have k1 : w3.cell? ⟨q1, 1, none⟩ = some (.int .i64 d2) := K.cell 1
  have k2 : w3.cell? ⟨q1, 2, none⟩ = some (.string d3) := K.cell 2
  have k3 : w3.cell? ⟨q1, 3, none⟩ = some (.string f1) := K.cell 3
  have k4 : w3.cell? ⟨q1, 4, none⟩ = some (.int .i64 wt) := K.cell 4
  have k5 : w3.cell? ⟨q1, 5, none⟩ = some (.slice A1 xs.length c1) := K.cell 5
  have k6 : w3.cell? ⟨q1, 6, none⟩ = some (.int .i64 vl) := K.cell 6
  go_wp2_with fail
  obtain ⟨Y, hY⟩ : ∃ Y, Y = w3.alloc (.cells #[.int .i64 e1, .int .i64 e2, .string e3, .string g1, .int .i64 et, .slice A2 ys.length c2, .int .i64 el] 26) := ⟨_, rfl⟩
  rw [← hY]
  obtain ⟨q2, hq2⟩ : ∃ q, q = w3.heap.size := ⟨_, rfl⟩
  rw [← hq2]
  have M : Box Y q2 26 #[.int .i64 e1, .int .i64 e2, .string e3, .string g1, .int .i64 et, .slice A2 ys.length c2, .int .i64 el] := by rw [hY, hq2]; exact Box.new _ _ _
  have bY : Below w3.heap.size w3 Y := by rw [hY]; go_grown
  clear hY hq2 k0 k1 k2 k3 k4 k5 k6 n1
  have B4 := chain B3 bY
  replace K := K.keep bY
  replace sx := sx.keep bY (Nat.le_refl _)
  replace o2 := o2.keep bY (Nat.le_refl _)
  clear B3 bY
  have k0 : Y.cell? ⟨q1, 0, none⟩ = some (.int .i64 d1) := K.cell 0
  have k1 : Y.cell? ⟨q1, 1, none⟩ = some (.int .i64 d2) := K.cell 1
  have k2 : Y.cell? ⟨q1, 2, none⟩ = some (.string d3) := K.cell 2
  have k3 : Y.cell? ⟨q1, 3, none⟩ = some (.string f1) := K.cell 3
  have k4 : Y.cell? ⟨q1, 4, none⟩ = some (.int .i64 wt) := K.cell 4
  have k5 : Y.cell? ⟨q1, 5, none⟩ = some (.slice A1 xs.length c1) := K.cell 5
  have k6 : Y.cell? ⟨q1, 6, none⟩ = some (.int .i64 vl) := K.cell 6
  have bR := Below.refl Y.heap.size Y
  obtain ⟨pb, hpb⟩ : ∃ pb, pb = parB d1 d2 d3 f1 wt xs vl := ⟨_, rfl⟩
  have CI := fun (Q : World) (s : SliceOf Q 1 vI (.slice A1 xs.length c1) xs) => isParcelI d1 d2 d3 f1 wt xs vl _ Q zt zf s
  have CS := fun (Q : World) (s : SliceOf Q 1 vI (.slice A1 xs.length c1) xs) => isParcelS d1 d2 d3 f1 wt xs vl _ Q zt zf s
  rw [← hpb] at CI CS
  have HCI := Lib.hid CI; have HCS := Lib.hid CS; have HPB := Lib.hid hpb
  clear CI CS hpb
  have tb : (pb != pb) = false := by simp
  go_wp2_with fail
  go_region_held3 (fun Q => Q.cell? ⟨q1, 0, none⟩ = some (.int .i64 d1) ∧ Q.cell? ⟨q1, 1, none⟩ = some (.int .i64 d2) ∧ Q.cell? ⟨q1, 2, none⟩ = some (.string d3) ∧ Q.cell? ⟨q1, 3, none⟩ = some (.string f1) ∧ Q.cell? ⟨q1, 4, none⟩ = some (.int .i64 wt) ∧ Q.cell? ⟨q1, 5, none⟩ = some (.slice A1 xs.length c1) ∧ Q.cell? ⟨q1, 6, none⟩ = some (.int .i64 vl) ∧ Below Y.heap.size Y Q) (((try go_split_ands); refine ⟨?_, ?_, ?_, ?_, ?_, ?_, ?_, ?_⟩ <;> first | assumption | exact (Below.refl _ _).drew | (apply cell_keep <;> assumption) | (apply Below.drew; assumption) | (apply chain' <;> assumption))) (first | (go_at_call 13; (try go_split_ands); refine (HCI.out _ (sx.keep (by assumption) (Nat.le_refl _))).mono ?_; rintro e w' ⟨rfl, hb'⟩) | (go_at_call 14; (try go_split_ands); refine (HCS.out _ (sx.keep (by assumption) (Nat.le_refl _))).mono ?_; rintro e w' ⟨rfl, hb'⟩))
  all_goals
    (try go_split_ands)
    have b5 : Below Y.heap.size Y w' := by assumption
    clear hb' bR k0 k1 k2 k3 k4 k5 k6
    have B5 := chain B4 b5
    replace K := K.keep b5
    replace M := M.keep b5
    replace sx := sx.keep b5 (Nat.le_refl _)
    replace o2 := o2.keep b5 (Nat.le_refl _)
    clear B4 b5
    have k0 : w'.cell? ⟨q1, 0, none⟩ = some (.int .i64 d1) := K.cell 0
    have k1 : w'.cell? ⟨q1, 1, none⟩ = some (.int .i64 d2) := K.cell 1
    have k2 : w'.cell? ⟨q1, 2, none⟩ = some (.string d3) := K.cell 2
    have k3 : w'.cell? ⟨q1, 3, none⟩ = some (.string f1) := K.cell 3
    have k4 : w'.cell? ⟨q1, 4, none⟩ = some (.int .i64 wt) := K.cell 4
    have k5 : w'.cell? ⟨q1, 5, none⟩ = some (.slice A1 xs.length c1) := K.cell 5
    have k6 : w'.cell? ⟨q1, 6, none⟩ = some (.int .i64 vl) := K.cell 6
    go_wp2_with fail
    refine (HCI.out _ sx).mono ?_
    rintro e w6 ⟨rfl, b6⟩
    clear HCI HCS k0 k1 k2 k3 k4 k5 k6
    have B6 := chain B5 b6
    replace K := K.keep b6
    replace M := M.keep b6
    replace sx := sx.keep b6 (Nat.le_refl _)
    replace o2 := o2.keep b6 (Nat.le_refl _)
    clear B5 b6
    cases pb
    · have hk : ok = false := read_par_no (d := ⟨⟨d1, d2, d3⟩, f1, wt, xs, vl⟩) HPB.out.symm (HR.out ▸ HT.out)
      subst hk
      have hr0 : r.toList.isEmpty = true := by rw [Lib.toList_data, HR.out, parOf_no (d := ⟨⟨d1, d2, d3⟩, f1, wt, xs, vl⟩) HPB.out.symm]; rfl
      have CC := chargeI d1 d2 d3 f1 wt xs vl _ w6 zt zf sx
      rw [charge_no HPB.out.symm] at CC
      clear HR HT HPB o2
      have k0 : w6.cell? ⟨q1, 0, none⟩ = some (.int .i64 d1) := K.cell 0
      have k1 : w6.cell? ⟨q1, 1, none⟩ = some (.int .i64 d2) := K.cell 1
      have k2 : w6.cell? ⟨q1, 2, none⟩ = some (.string d3) := K.cell 2
      have k3 : w6.cell? ⟨q1, 3, none⟩ = some (.string f1) := K.cell 3
      have k4 : w6.cell? ⟨q1, 4, none⟩ = some (.int .i64 wt) := K.cell 4
      have k5 : w6.cell? ⟨q1, 5, none⟩ = some (.slice A1 xs.length c1) := K.cell 5
      have k6 : w6.cell? ⟨q1, 6, none⟩ = some (.int .i64 vl) := K.cell 6
      go_wp2_with fail
      refine CC.mono ?_
      rintro e w7 ⟨rfl, b7⟩
      go_wp2_with fail
      go_ret
      exact ⟨rfl, chain B6 b7⟩
    · obtain ⟨hd, hk⟩ := read_par_yes (d := ⟨⟨d1, d2, d3⟩, f1, wt, xs, vl⟩) HPB.out.symm (HR.out ▸ HT.out)
      subst hk
      injection hd with hd1 hd2 hd3 hd4 hd5
      injection hd1 with hd6 hd7 hd8
      subst hd2 hd3 hd4 hd5 hd6 hd7 hd8
      have CH := charge_yes HPB.out.symm
      clear HR HT
      obtain ⟨cw, hcw⟩ : ∃ cw, cw = chargeW e1 e2 e3 g1 et ys el := ⟨_, rfl⟩
      have CC := fun (Q : World) (s : SliceOf Q 1 vI (.slice A2 ys.length c2) ys) => chargeI e1 e2 e3 g1 et ys el _ Q zt zf s
      rw [← hcw] at CH CC
      have HCC := Lib.hid CC
      clear CC hcw HPB
      have f1' : (e1 == e1) = true := by simp
      have f2' : (e2 == e2) = true := by simp
      have f3' : (e3.toList == e3.toList) = true := by simp
      have f4' : (g1.toList == g1.toList) = true := by simp
      have f5' : (et == et) = true := by simp
      have f6' : (el == el) = true := by simp
      have k0 : w6.cell? ⟨q1, 0, none⟩ = some (.int .i64 e1) := K.cell 0
      have k1 : w6.cell? ⟨q1, 1, none⟩ = some (.int .i64 e2) := K.cell 1
      have k2 : w6.cell? ⟨q1, 2, none⟩ = some (.string e3) := K.cell 2
      have k3 : w6.cell? ⟨q1, 3, none⟩ = some (.string g1) := K.cell 3
      have k4 : w6.cell? ⟨q1, 4, none⟩ = some (.int .i64 et) := K.cell 4
      have k5 : w6.cell? ⟨q1, 5, none⟩ = some (.slice A1 ys.length c1) := K.cell 5
      have k6 : w6.cell? ⟨q1, 6, none⟩ = some (.int .i64 el) := K.cell 6
      have m0 : w6.cell? ⟨q2, 0, none⟩ = some (.int .i64 e1) := M.cell 0
      have m1 : w6.cell? ⟨q2, 1, none⟩ = some (.int .i64 e2) := M.cell 1
      have m2 : w6.cell? ⟨q2, 2, none⟩ = some (.string e3) := M.cell 2
      have m3 : w6.cell? ⟨q2, 3, none⟩ = some (.string g1) := M.cell 3
      have m4 : w6.cell? ⟨q2, 4, none⟩ = some (.int .i64 et) := M.cell 4
      have m5 : w6.cell? ⟨q2, 5, none⟩ = some (.slice A2 ys.length c2) := M.cell 5
      have m6 : w6.cell? ⟨q2, 6, none⟩ = some (.int .i64 el) := M.cell 6
      have bR2 := Below.refl w6.heap.size w6
      go_wp2_with fail
      go_region_held3 (fun Q => Q.cell? ⟨q1, 0, none⟩ = some (.int .i64 e1) ∧ Q.cell? ⟨q1, 1, none⟩ = some (.int .i64 e2) ∧ Q.cell? ⟨q1, 2, none⟩ = some (.string e3) ∧ Q.cell? ⟨q1, 3, none⟩ = some (.string g1) ∧ Q.cell? ⟨q1, 4, none⟩ = some (.int .i64 et) ∧ Q.cell? ⟨q1, 5, none⟩ = some (.slice A1 ys.length c1) ∧ Q.cell? ⟨q1, 6, none⟩ = some (.int .i64 el) ∧ Q.cell? ⟨q2, 0, none⟩ = some (.int .i64 e1) ∧ Q.cell? ⟨q2, 1, none⟩ = some (.int .i64 e2) ∧ Q.cell? ⟨q2, 2, none⟩ = some (.string e3) ∧ Q.cell? ⟨q2, 3, none⟩ = some (.string g1) ∧ Q.cell? ⟨q2, 4, none⟩ = some (.int .i64 et) ∧ Q.cell? ⟨q2, 5, none⟩ = some (.slice A2 ys.length c2) ∧ Q.cell? ⟨q2, 6, none⟩ = some (.int .i64 el) ∧ Below w6.heap.size w6 Q) (((try go_split_ands); refine ⟨?_, ?_, ?_, ?_, ?_, ?_, ?_, ?_, ?_, ?_, ?_, ?_, ?_, ?_, ?_⟩ <;> first | assumption | exact (Below.refl _ _).drew | (apply cell_keep <;> assumption) | (apply Below.drew; assumption) | (apply chain' <;> assumption))) (first | (go_at_call 16; (try go_split_ands); refine (ints_same ys _ _ _ (o2.keep (by assumption) (Nat.le_refl _)) (sx.keep (by assumption) (Nat.le_refl _))).mono ?_; rintro e w' ⟨rfl, hb'⟩) | (go_at_call 15; (try go_split_ands); refine (HCC.out _ (o2.keep (by assumption) (Nat.le_refl _))).mono ?_; rintro e w' ⟨rfl, hb'⟩))
      all_goals
        (try go_split_ands)
        go_wp2_with fail
        go_ret
        exact ⟨rfl, chain B6 (by assumption)⟩
end Go.Proofs.YteicnjemaemijaaGreatDoor
