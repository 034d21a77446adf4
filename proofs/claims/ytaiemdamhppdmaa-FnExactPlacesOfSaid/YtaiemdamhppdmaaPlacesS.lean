/- What the reference's PlacesOf answers: the places of a network, each once, in order. No condition. -/
import Derived.Test.YtaiemdamhppdmaaPlacesI
import Derived.Test.YtaiemdamhppdmaaInsKit
import Derived.Deep.RegionHeld3
namespace Go.Proofs.Ytaiemdamhppdmaa
open Go.RowKit Go.PlainAid
set_option maxRecDepth 100000
set_option linter.unusedVariables false
theorem less_ky {a b : ByteArray} (h : Op.bytesLess a.toList b.toList = true) : ky a < ky b := by
  rw [bytesLess_eq] at h
  have := of_decide_eq_true h
  rwa [Lib.toList_data, Lib.toList_data] at this
theorem less_not {a b : ByteArray} (h : Op.bytesLess a.toList b.toList = false) : ¬ ky a < ky b := by
  rw [bytesLess_eq] at h
  have := of_decide_eq_false h
  rwa [Lib.toList_data, Lib.toList_data] at this
theorem eq_yes {a b : ByteArray} (h : (a.toList == b.toList) = true) : a = b := by
  have := eq_of_beq h
  rw [Lib.toList_data, Lib.toList_data] at this
  exact byte_inj this
theorem eq_no {a b : ByteArray} (h : (a.toList == b.toList) = false) : a ≠ b := fun e => by subst e; simp at h
theorem vS_one : ∀ x : ByteArray, ∀ u ∈ vS x, u.oneCell' = true := fun x u hu => by simp [vS] at hu; subst hu; rfl
set_option maxHeartbeats 6400000 in
theorem placesS (legs : List LegD) (off : List Int) (ch : Int) (l o : Value) (w : World) (hok : ∀ x ∈ legs, x.ok) (sl : SliceOf w 6 LegD.vals l legs) (so : SliceOf w 1 vI o off) (hn : legs.length ≤ 1048576) : Calls Try.prog 7 #[.agg #[l, o, .int .i64 ch]] w (PlP (legPl legs) w) := by
  obtain ⟨A0, c, rfl, hl, hm⟩ := sl.form
  obtain ⟨A', c', rfl, hl', hm'⟩ := so.form
  unfold maxLen at hm hm'
  obtain ⟨i0, hi, hq0, hq1, hq2⟩ := info_parts info_strT
  have HP := Lib.hid (legPl_at legs)
  have HPL := Lib.hid (legPl_len legs)
  go_enter Try.func7, Try.ntmps7
  go_wp2_with fail
  obtain ⟨W, hW⟩ : ∃ W, W = (w.alloc (.cells #[.slice A0 legs.length c, .slice A' off.length c', .int .i64 ch] 31)).alloc (.cells #[] 9) := ⟨_, rfl⟩
  rw [← hW]
  have bW : Below w.heap.size w W := by rw [hW]; go_grown
  have zW : W.heap.size = w.heap.size + 2 := by rw [hW]; simp
  have n0 : W.cell? ⟨w.heap.size, 0, none⟩ = some (.slice A0 legs.length c) := by rw [hW]; simp [go_sem]
  have oW : Own W (w.heap.size + 1) 9 1 vS (.slice (some ⟨w.heap.size + 1, 0, none⟩) 0 0) [] := by
    rw [hW]
    have := own_emptyT (w.alloc (.cells #[.slice A0 legs.length c, .slice A' off.length c', .int .i64 ch] 31))
    rw [show (w.alloc (.cells #[.slice A0 legs.length c, .slice A' off.length c', .int .i64 ch] 31)).heap.size = w.heap.size + 1 by simp] at this
    exact this
  clear hW
  go_loopw [3, 4, 5, 6] (fun ov iv _ _ wr => ∃ (i : Nat) (L : List ByteArray), i ≤ 2 * legs.length ∧ iv = .int .i64 i ∧ wr.cell? ⟨w.heap.size, 0, none⟩ = some (.slice A0 legs.length c) ∧ Own wr (w.heap.size + 1) 9 1 vS ov L ∧ ov ≠ .slice none 0 0 ∧ Hid (Put (legPl legs) i L) ∧ L.length ≤ i ∧ Below w.heap.size w wr ∧ w.heap.size + 2 ≤ wr.heap.size) (fun _ iv _ _ _ => 2 * legs.length - (intOf iv).toNat)
  case atStart => exact ⟨0, [], Nat.zero_le _, rfl, n0, oW, (by intro e; cases e), Lib.hid (Put.zero _), Nat.le_refl _, bW, by omega⟩
  case round =>
    clear n0 oW bW zW
    obtain ⟨i, L, hi2, rfl, n0, hO, hne, HU, hL, hB, hz⟩ := hrel
    obtain ⟨g, cp, rfl, hgb, hgl, hc1, hc2⟩ := hO.some1 hne
    unfold maxLen at hc2
    by_cases hlt : i < 2 * legs.length
    · obtain ⟨k, r, hkr, hr⟩ : ∃ k r : Nat, i = 2 * k + r ∧ r < 2 := ⟨i / 2, i % 2, by omega, by omega⟩
      obtain ⟨b_, off_, x, rfl, hb_, hx, hcell⟩ := sl.cells (show k < legs.length by omega)
      have hxo := hok x (mem_of hx.out)
      have hp := HP.out k x hx.out
      obtain ⟨f, t, p1, p2, p3, p4⟩ := x
      have zf := hxo.1
      have zt := hxo.2.1
      simp only at zf zt hp
      have HPP := Lib.hid hp
      clear hxo hp
      have c0 : wr.cell? ⟨b_, off_ + k * 6, none⟩ = some (.string f) := (hB.cell (p := ⟨b_, off_ + k * 6, none⟩) hb_).trans (hcell 0 _ rfl)
      have c1 : wr.cell? ⟨b_, off_ + k * 6 + 1, none⟩ = some (.string t) := (hB.cell (p := ⟨b_, off_ + k * 6 + 1, none⟩) hb_).trans (hcell 1 _ rfl)
      clear hcell
      obtain ⟨z, hzz⟩ : ∃ z : Int, z = (i : Int) := ⟨_, rfl⟩
      rw [← hzz]
      have zlt : z < 2 * (legs.length : Int) := by omega
      have z0 : 0 ≤ z := by omega
      have hq1' : z.tdiv 2 = (k : Int) := by rw [Int.tdiv_eq_ediv_of_nonneg z0]; omega
      have hq2' : z.tmod 2 = (r : Int) := by rw [Int.tmod_eq_emod_of_nonneg z0]; omega
      have HZ := Lib.hid hzz
      have hk0 : (0 : Int) ≤ (k : Int) := by omega
      have hk1 : (k : Int) < (legs.length : Int) := by omega
      clear hzz
      obtain ⟨p, hpp, HPi⟩ : ∃ p : ByteArray, Hid (p = if r = 1 then t else f) ∧ Hid ((legPl legs)[i]? = some p) := by
        rcases (show r = 0 ∨ r = 1 by omega) with rfl | rfl
        · exact ⟨f, rfl, Lib.hid (by rw [hkr]; exact HPP.out.1)⟩
        · exact ⟨t, rfl, Lib.hid (by rw [hkr]; exact HPP.out.2)⟩
      have HKR := Lib.hid hkr; clear hkr HPP
      rcases (show r = 0 ∨ r = 1 by omega) with rfl | rfl
      all_goals
        have e0 : p = _ := hpp.out
        simp only [if_pos, reduceIte, Nat.zero_ne_one] at e0
        subst e0
        clear hpp
        go_wp2_with fail
        obtain ⟨wo, rfl⟩ : ∃ wo : World, wo = wr := ⟨_, rfl⟩
        clear c0 c1 hq1' hq2' hk0 hk1
        go_loopw [6] (fun kv wr => ∃ q : Nat, q ≤ L.length ∧ kv = .int .i64 q ∧ Hid (∀ (j : Nat) (x : ByteArray), j < q → L[j]? = some x → ky x < ky p) ∧ wr = wo) (fun kv _ => L.length - (intOf kv).toNat)
        case atStart => exact ⟨0, Nat.zero_le _, rfl, Lib.hid (fun j x hj => by omega), rfl⟩
        case round =>
          obtain ⟨q, hq, rfl, HLO, rfl⟩ := hrel
          have q0 : (0 : Int) ≤ (q : Int) := by omega
          by_cases hql : q < L.length
          · obtain ⟨y, hy⟩ : ∃ y, y = L[q] := ⟨_, rfl⟩
            have hyL : L[q]? = some y := by rw [hy]; exact List.getElem?_eq_getElem hql
            have cq : wr.cell? ⟨g, q, none⟩ = some (.string y) := by
              have := own_news vS_len1 hO q (.string y) (by rw [flatMap_vS, List.getElem?_map, List.getElem?_map, hyL]; rfl)
              exact this
            have HY := Lib.hid hyL; clear hyL hy
            have q1 : (q : Int) < (L.length : Int) := by omega
            cases hless : Op.bytesLess y.toList p.toList
            · cases heq : (y.toList == p.toList)
              · have hnl := less_not hless
                have hne2 := eq_no heq
                have HPU := Lib.hid (HU.out.new HPi.out (by omega) HLO.out (.inr ⟨y, HY.out, hnl, hne2⟩))
                have heq' : (y.toList != p.toList) = true := by simp [bne, heq]
                clear hnl hne2
                go_wp2_with fail
                have qc : (q : Int) ≤ (cp : Int) := by omega
                have qnc : ¬ cp = q := by omega
                obtain ⟨T, hT, hTl, hs1⟩ : ∃ T, T = L.take q ∧ T.length = q ∧ ∀ j u, (T.flatMap vS)[j]? = some u → wr.cell? ⟨g, j, none⟩ = some u := ⟨_, rfl, by rw [List.length_take]; omega, news_take q (own_news vS_len1 hO)⟩
                obtain ⟨D, hD, hDl, hs2⟩ : ∃ D, D = L.drop q ∧ D.length = L.length - q ∧ ∀ j u, (D.flatMap vS)[j]? = some u → wr.cell? ⟨g, q * 1 + j, none⟩ = some u := ⟨_, rfl, by rw [List.length_drop], news_drop vS_len1 (by omega) (own_news vS_len1 hO)⟩
                simp only [Nat.mul_one] at hs2
                have N1 := Lib.hid hs1
                have N2 := Lib.hid hs2
                have HT := Lib.hid hT
                have HD := Lib.hid hD
                have HTl := Lib.hid hTl
                have HDl := Lib.hid hDl
                clear hs1 hs2 hT hD hTl hDl
                have bR := Below.refl wr.heap.size wr
                have x1 : ∀ W : World, (W.alloc (.cells #[.string p] 9)).cell? ⟨W.heap.size, 0, none⟩ = some (.string p) := fun W => cell_newI W _ _
                have X1 := Lib.hid x1; clear x1
                go_region_held3 (fun Q => Below wr.heap.size wr Q) (((try go_split_ands); repeat' (first | with_reducible assumption | with_reducible exact bR | with_reducible refine Below.drew ?_ | with_reducible refine below_allocI ?_ _))) ((first
                  | (refine step_append_vals (vals := vS) (size := 1) (bytes := 16) vS_len1 vS_one (by decide) Try.underlying27 hi hq0 hq1 hq2 rfl (by decide) (by rfl) (.tmp 59) (.tmp 62) (by rfl) (wt := wr) ?_ _ [] rfl ?_ _ q cp T rfl HTl.out ?_ ?_ ?_
                     ((try go_split_ands); assumption)
                     first | exact own_start bR _ _ _ | exact (own_start bR _ _ _).alloc _ | exact own_start2 _ _ _ _ _ | fail
                     exact news_keep0 (by (try go_split_ands); assumption) hgl N1.out
                     exact ins_small0 HTl.out hq (by omega)
                     intro v1 w1 O1 hB1 nil1 gr1
                     replace nil1 := nil1 (by intro e; cases e)
                     first | (have hx2 := ins_xA gr1) | (have hx2 := ins_xB gr1) | skip)
                  | (refine step_append_vals (vals := vS) (size := 1) (bytes := 16) vS_len1 vS_one (by decide) Try.underlying27 hi hq0 hq1 hq2 rfl (by decide) (by rfl) (.tmp 63) (.tmp 65) (by rfl) (wt := wr) ?_ v1 T rfl ?_ _ 1 1 [p] rfl rfl ?_ ?_ ?_
                     ((try go_split_ands); assumption)
                     first | exact O1 | exact O1.alloc _
                     first | exact news_one rfl hx2 | exact news_one rfl (X1.out _) | fail
                     exact ins_small1 HTl.out hq (by omega)
                     intro v2 w2 O2 hB2 nil2 gr2
                     replace nil2 := nil2 nil1)
                  | (refine step_append_vals (vals := vS) (size := 1) (bytes := 16) vS_len1 vS_one (by decide) Try.underlying27 hi hq0 hq1 hq2 rfl (by decide) (by rfl) (.tmp 66) (.tmp 69) (by rfl) (wt := wr) ?_ v2 (T ++ [p]) rfl O2 _ (L.length - q) _ D rfl HDl.out ?_ ?_ ?_
                     ((try go_split_ands); assumption)
                     exact news_keep hB2 hgl N2.out
                     exact ins_small (n := L.length) HTl.out (by first | exact HDl.out | (have := HDl.out; omega)) hq (by omega)
                     intro v3 w3 O3 hB3 nil3 gr3
                     replace nil3 := nil3 nil2)))
                all_goals
                  obtain ⟨L', hL'⟩ : ∃ L', L' = T ++ [p] ++ D := ⟨_, rfl⟩
                  rw [← hL'] at O3
                  have eL : L' = L.take q ++ p :: L.drop q := by rw [hL', HT.out, HD.out]; simp
                  have HPU3 : Hid (Put (legPl legs) (i + 1) L') := Lib.hid (by rw [eL]; exact HPU.out)
                  have O4 := O3.mono (base' := w.heap.size + 1) (by omega)
                  have B4 := chain hB hB3
                  have s4 := hB3.size
                  have m4 := cell_keep hB3 n0
                  have l4 := HPU3.out.2.2
                  clear hL' eL O3 O1 O2 nil2 nil1 hB1 hB2 hB3 gr1 gr2 gr3
                  go_wp2_with fail
                  go_roundw
                  case rel => exact ⟨i + 1, L', by omega, by rw [HZ.out]; go_num, m4, O4, nil3, HPU3, l4, B4, by omega⟩
                  case measure => rw [HZ.out]; simp [intOf]; omega
              · have ey := eq_yes heq
                have hmem : p ∈ L := by rw [← ey]; exact List.mem_of_getElem? HY.out
                have HPU := Lib.hid (HU.out.old HPi.out hmem)
                have heq' : (y.toList != p.toList) = false := by simp [bne, heq]
                clear ey hmem
                go_wp2_with fail
                go_roundw
                case rel => exact ⟨i + 1, L, by omega, by rw [HZ.out]; go_num, n0, hO, hne, HPU, by omega, hB, hz⟩
                case measure => rw [HZ.out]; simp [intOf]; omega
            · have hlt2 := less_ky hless
              have HL2 := Lib.hid hlt2; clear hlt2
              go_wp2_with fail
              go_roundw
              case rel => exact ⟨q + 1, by omega, by go_num, Lib.hid (fun j x hj hx => by
                by_cases e : j = q
                · subst e
                  obtain rfl : y = x := by have := HY.out.symm.trans hx; injection this
                  exact HL2.out
                · exact HLO.out j x (by omega) hx), by first | rfl | trivial⟩
              case measure => simp [intOf]; omega
          · obtain rfl : q = L.length := by omega
            have HPU := Lib.hid (HU.out.new HPi.out (Nat.le_refl _) HLO.out (.inl rfl))
            by_cases hkc : cp = L.length
            · subst hkc
              go_wp2_with fail
              obtain ⟨T, hT, hTl, hs1⟩ : ∃ T, T = L.take L.length ∧ T.length = L.length ∧ ∀ j u, (T.flatMap vS)[j]? = some u → wr.cell? ⟨g, j, none⟩ = some u := ⟨_, rfl, by rw [List.length_take]; omega, news_take L.length (own_news vS_len1 hO)⟩
              obtain ⟨D, hD, hDl, hs2⟩ : ∃ D, D = L.drop L.length ∧ D.length = 0 ∧ ∀ j u, (D.flatMap vS)[j]? = some u → wr.cell? ⟨g, L.length * 1 + j, none⟩ = some u := ⟨_, rfl, by rw [List.length_drop]; omega, news_drop vS_len1 (by omega) (own_news vS_len1 hO)⟩
              simp only [Nat.mul_one] at hs2
              have N1 := Lib.hid hs1
              have N2 := Lib.hid hs2
              have HT := Lib.hid hT
              have HD := Lib.hid hD
              have HTl := Lib.hid hTl
              have HDl := Lib.hid hDl
              clear hs1 hs2 hT hD hTl hDl
              have bR := Below.refl wr.heap.size wr
              have x1 : ∀ W : World, (W.alloc (.cells #[.string p] 9)).cell? ⟨W.heap.size, 0, none⟩ = some (.string p) := fun W => cell_newI W _ _
              have X1 := Lib.hid x1; clear x1
              go_region_held3 (fun Q => Below wr.heap.size wr Q) (((try go_split_ands); repeat' (first | with_reducible assumption | with_reducible exact bR | with_reducible refine Below.drew ?_ | with_reducible refine below_allocI ?_ _))) ((first
                | (refine step_append_vals (vals := vS) (size := 1) (bytes := 16) vS_len1 vS_one (by decide) Try.underlying27 hi hq0 hq1 hq2 rfl (by decide) (by rfl) (.tmp 59) (.tmp 62) (by rfl) (wt := wr) ?_ _ [] rfl ?_ _ L.length L.length T rfl HTl.out ?_ ?_ ?_
                   ((try go_split_ands); assumption)
                   first | exact own_start bR _ _ _ | exact (own_start bR _ _ _).alloc _ | exact own_start2 _ _ _ _ _ | fail
                   exact news_keep0 (by (try go_split_ands); assumption) hgl N1.out
                   exact ins_small0 HTl.out (Nat.le_refl _) (by omega)
                   intro v1 w1 O1 hB1 nil1 gr1
                   replace nil1 := nil1 (by intro e; cases e)
                   first | (have hx2 := ins_xA gr1) | (have hx2 := ins_xB gr1) | skip)
                | (refine step_append_vals (vals := vS) (size := 1) (bytes := 16) vS_len1 vS_one (by decide) Try.underlying27 hi hq0 hq1 hq2 rfl (by decide) (by rfl) (.tmp 63) (.tmp 65) (by rfl) (wt := wr) ?_ v1 T rfl ?_ _ 1 1 [p] rfl rfl ?_ ?_ ?_
                   ((try go_split_ands); assumption)
                   first | exact O1 | exact O1.alloc _
                   first | exact news_one rfl hx2 | exact news_one rfl (X1.out _) | fail
                   exact ins_small1 HTl.out (Nat.le_refl _) (by omega)
                   intro v2 w2 O2 hB2 nil2 gr2
                   replace nil2 := nil2 nil1)
                | (refine step_append_vals (vals := vS) (size := 1) (bytes := 16) vS_len1 vS_one (by decide) Try.underlying27 hi hq0 hq1 hq2 rfl (by decide) (by rfl) (.tmp 66) (.tmp 69) (by rfl) (wt := wr) ?_ v2 (T ++ [p]) rfl O2 _ (0) _ D rfl HDl.out ?_ ?_ ?_
                   ((try go_split_ands); assumption)
                   exact news_none HDl.out
                   exact ins_small (n := L.length) HTl.out (by first | exact HDl.out | (have := HDl.out; omega)) (Nat.le_refl _) (by omega)
                   intro v3 w3 O3 hB3 nil3 gr3
                   replace nil3 := nil3 nil2)))
              all_goals
                obtain ⟨L', hL'⟩ : ∃ L', L' = T ++ [p] ++ D := ⟨_, rfl⟩
                rw [← hL'] at O3
                have eL : L' = L.take L.length ++ p :: L.drop L.length := by rw [hL', HT.out, HD.out]; simp
                have HPU3 : Hid (Put (legPl legs) (i + 1) L') := Lib.hid (by rw [eL]; exact HPU.out)
                have O4 := O3.mono (base' := w.heap.size + 1) (by omega)
                have B4 := chain hB hB3
                have s4 := hB3.size
                have m4 := cell_keep hB3 n0
                have l4 := HPU3.out.2.2
                clear hL' eL O3 O1 O2 nil2 nil1 hB1 hB2 hB3 gr1 gr2 gr3
                go_wp2_with fail
                go_roundw
                case rel => exact ⟨i + 1, L', by omega, by rw [HZ.out]; go_num, m4, O4, nil3, HPU3, l4, B4, by omega⟩
                case measure => rw [HZ.out]; simp [intOf]; omega
            · go_wp2_with fail
              obtain ⟨T, hT, hTl, hs1⟩ : ∃ T, T = L.take L.length ∧ T.length = L.length ∧ ∀ j u, (T.flatMap vS)[j]? = some u → wr.cell? ⟨g, j, none⟩ = some u := ⟨_, rfl, by rw [List.length_take]; omega, news_take L.length (own_news vS_len1 hO)⟩
              obtain ⟨D, hD, hDl, hs2⟩ : ∃ D, D = L.drop L.length ∧ D.length = 0 ∧ ∀ j u, (D.flatMap vS)[j]? = some u → wr.cell? ⟨g, L.length * 1 + j, none⟩ = some u := ⟨_, rfl, by rw [List.length_drop]; omega, news_drop vS_len1 (by omega) (own_news vS_len1 hO)⟩
              simp only [Nat.mul_one] at hs2
              have N1 := Lib.hid hs1
              have N2 := Lib.hid hs2
              have HT := Lib.hid hT
              have HD := Lib.hid hD
              have HTl := Lib.hid hTl
              have HDl := Lib.hid hDl
              clear hs1 hs2 hT hD hTl hDl
              have bR := Below.refl wr.heap.size wr
              have x1 : ∀ W : World, (W.alloc (.cells #[.string p] 9)).cell? ⟨W.heap.size, 0, none⟩ = some (.string p) := fun W => cell_newI W _ _
              have X1 := Lib.hid x1; clear x1
              go_region_held3 (fun Q => Below wr.heap.size wr Q) (((try go_split_ands); repeat' (first | with_reducible assumption | with_reducible exact bR | with_reducible refine Below.drew ?_ | with_reducible refine below_allocI ?_ _))) ((first
                | (refine step_append_vals (vals := vS) (size := 1) (bytes := 16) vS_len1 vS_one (by decide) Try.underlying27 hi hq0 hq1 hq2 rfl (by decide) (by rfl) (.tmp 59) (.tmp 62) (by rfl) (wt := wr) ?_ _ [] rfl ?_ _ L.length cp T rfl HTl.out ?_ ?_ ?_
                   ((try go_split_ands); assumption)
                   first | exact own_start bR _ _ _ | exact (own_start bR _ _ _).alloc _ | exact own_start2 _ _ _ _ _ | fail
                   exact news_keep0 (by (try go_split_ands); assumption) hgl N1.out
                   exact ins_small0 HTl.out (Nat.le_refl _) (by omega)
                   intro v1 w1 O1 hB1 nil1 gr1
                   replace nil1 := nil1 (by intro e; cases e)
                   first | (have hx2 := ins_xA gr1) | (have hx2 := ins_xB gr1) | skip)
                | (refine step_append_vals (vals := vS) (size := 1) (bytes := 16) vS_len1 vS_one (by decide) Try.underlying27 hi hq0 hq1 hq2 rfl (by decide) (by rfl) (.tmp 63) (.tmp 65) (by rfl) (wt := wr) ?_ v1 T rfl ?_ _ 1 1 [p] rfl rfl ?_ ?_ ?_
                   ((try go_split_ands); assumption)
                   first | exact O1 | exact O1.alloc _
                   first | exact news_one rfl hx2 | exact news_one rfl (X1.out _) | fail
                   exact ins_small1 HTl.out (Nat.le_refl _) (by omega)
                   intro v2 w2 O2 hB2 nil2 gr2
                   replace nil2 := nil2 nil1)
                | (refine step_append_vals (vals := vS) (size := 1) (bytes := 16) vS_len1 vS_one (by decide) Try.underlying27 hi hq0 hq1 hq2 rfl (by decide) (by rfl) (.tmp 66) (.tmp 69) (by rfl) (wt := wr) ?_ v2 (T ++ [p]) rfl O2 _ (0) _ D rfl HDl.out ?_ ?_ ?_
                   ((try go_split_ands); assumption)
                   exact news_none HDl.out
                   exact ins_small (n := L.length) HTl.out (by first | exact HDl.out | (have := HDl.out; omega)) (Nat.le_refl _) (by omega)
                   intro v3 w3 O3 hB3 nil3 gr3
                   replace nil3 := nil3 nil2)))
              all_goals
                obtain ⟨L', hL'⟩ : ∃ L', L' = T ++ [p] ++ D := ⟨_, rfl⟩
                rw [← hL'] at O3
                have eL : L' = L.take L.length ++ p :: L.drop L.length := by rw [hL', HT.out, HD.out]; simp
                have HPU3 : Hid (Put (legPl legs) (i + 1) L') := Lib.hid (by rw [eL]; exact HPU.out)
                have O4 := O3.mono (base' := w.heap.size + 1) (by omega)
                have B4 := chain hB hB3
                have s4 := hB3.size
                have m4 := cell_keep hB3 n0
                have l4 := HPU3.out.2.2
                clear hL' eL O3 O1 O2 nil2 nil1 hB1 hB2 hB3 gr1 gr2 gr3
                go_wp2_with fail
                go_roundw
                case rel => exact ⟨i + 1, L', by omega, by rw [HZ.out]; go_num, m4, O4, nil3, HPU3, l4, B4, by omega⟩
                case measure => rw [HZ.out]; simp [intOf]; omega
    · obtain rfl : i = 2 * legs.length := by omega
      have hPd : IsPlaces (legPl legs) L := Put.done (by rw [HPL.out]; exact HU.out)
      have HI := Lib.hid hPd; clear hPd
      have hlp := HPL.out
      have hcast : ((2 * legs.length : Nat) : Int) = 2 * (legs.length : Int) := by omega
      go_wp2_with fail
      go_ret
      exact ⟨_, L, rfl, hO.mono (by omega), HI, by omega, hB⟩
end Go.Proofs.Ytaiemdamhppdmaa
