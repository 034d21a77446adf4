/- How the laws measure, copy and compare Leg records and slices of them. No condition. -/
import Derived.Test.YtdmeinfdldiegaaRecs
namespace Go.Proofs.Ytdmeinfdldiegaa
open Go.RowKit Go.PlainAid
set_option maxRecDepth 100000
set_option linter.unusedVariables false
theorem Leg_len : ∀ x : LegD, x.vals.length = 6 := fun _ => rfl
set_option maxHeartbeats 800000 in
theorem szLeg_el (x0 : ByteArray) (x1 : ByteArray) (x2 : Int) (x3 : Int) (x4 : Int) (x5 : Int) (left : Int) (w : World) (hl : 0 ≤ left) (hl2 : left ≤ 1048576) (h1 : x0.size ≤ maxLen) (h2 : x1.size ≤ maxLen) :
    Calls Try.prog 47 #[.agg #[.string x0, .string x1, .int .i64 x2, .int .i64 x3, .int .i64 x4, .int .i64 x5], .int .i64 left] w (SzPost (x0.size + x1.size) left w) := by
  unfold maxLen at h1 h2
  by_cases h : left < x0.size
  · go_enter Try.func47, Try.ntmps47
    go_wp2
    go_ret
    exact ⟨_, rfl, by omega, by omega, by omega, by go_grown⟩
  · by_cases h2 : left - x0.size < x1.size
    · go_enter Try.func47, Try.ntmps47
      go_wp2
      go_ret
      exact ⟨_, rfl, by omega, by omega, by omega, by go_grown⟩
    · go_enter Try.func47, Try.ntmps47
      go_wp2
      go_ret
      exact ⟨_, rfl, by omega, by omega, by omega, by go_grown⟩
set_option maxHeartbeats 1600000 in
theorem szLegS_any (xs : List LegD) (left : Int) (v : Value) (w : World) (hok : ∀ x ∈ xs, x.ok) (h : SliceOf w 6 LegD.vals v xs) (hl : 0 ≤ left) (hl2 : left ≤ 1048576) :
    Calls Try.prog 20 #[v, .int .i64 left] w (SzsPost xs.length left w) := by
  obtain ⟨A, c, rfl, hle, hm⟩ := h.form
  unfold maxLen at hm
  by_cases hb : left < xs.length
  · go_enter Try.func20, Try.ntmps20
    go_wp2
    go_ret
    exact ⟨_, rfl, by omega, by omega, by omega, Below.refl _ _⟩
  · go_enter Try.func20, Try.ntmps20
    go_wp2
    go_loopw [1, 5] (fun l i wr => ∃ (k : Nat) (r : Int), k ≤ xs.length ∧ i = .int .i64 k ∧ l = .int .i64 r ∧ 0 ≤ r ∧ r ≤ left ∧ Below w.heap.size w wr) (fun _ i _ => xs.length - (intOf i).toNat)
    case atStart => exact ⟨0, _, Nat.zero_le _, rfl, rfl, by omega, by omega, Below.refl _ _⟩
    case round =>
      obtain ⟨k, r, hk, rfl, rfl, r0, r1, hB⟩ := hrel
      by_cases hlt : k < xs.length
      · obtain ⟨b_, off, x, rfl, hb_, hx, hc⟩ := h.cells hlt
        have hxo := hok x (mem_of hx.out)
        obtain ⟨x0, x1, x2, x3, x4, x5⟩ := x
        have c0 : wr.cell? ⟨b_, off + k * 6, none⟩ = some (.string x0) := (hB.cell (p := ⟨b_, _, none⟩) hb_).trans (hc 0 _ rfl)
        have c1 : wr.cell? ⟨b_, off + k * 6 + 1, none⟩ = some (.string x1) := (hB.cell (p := ⟨b_, _, none⟩) hb_).trans (hc 1 _ rfl)
        have c2 : wr.cell? ⟨b_, off + k * 6 + 2, none⟩ = some (.int .i64 x2) := (hB.cell (p := ⟨b_, _, none⟩) hb_).trans (hc 2 _ rfl)
        have c3 : wr.cell? ⟨b_, off + k * 6 + 3, none⟩ = some (.int .i64 x3) := (hB.cell (p := ⟨b_, _, none⟩) hb_).trans (hc 3 _ rfl)
        have c4 : wr.cell? ⟨b_, off + k * 6 + 4, none⟩ = some (.int .i64 x4) := (hB.cell (p := ⟨b_, _, none⟩) hb_).trans (hc 4 _ rfl)
        have c5 : wr.cell? ⟨b_, off + k * 6 + 5, none⟩ = some (.int .i64 x5) := (hB.cell (p := ⟨b_, _, none⟩) hb_).trans (hc 5 _ rfl)
        have s1 := hxo.1
        have s2 := hxo.2.1
        simp only at s1 s2
        clear hc hxo
        go_wp2_with fail
        refine (szLeg_el _ _ _ _ _ _ _ _ r0 (by omega) s1 s2).mono ?_
        rintro e w1 ⟨q, rfl, q1, q2, q3, b1⟩
        have B1 := hB.trans (b1.mono hB.size)
        by_cases hq : q < 0
        · go_wp2
          go_ret
          exact ⟨_, rfl, by omega, by omega, by omega, B1⟩
        · go_wp2
          go_roundw
          case rel => exact ⟨k + 1, q, by omega, by go_num, rfl, by omega, by omega, B1⟩
          case measure => simp [intOf]; omega
      · go_wp2
        go_ret
        exact ⟨_, rfl, by omega, by omega, by omega, hB⟩
theorem Leg_sets (L : List Value) (k : Nat) (x0 : ByteArray) (x1 : ByteArray) (x2 : Int) (x3 : Int) (x4 : Int) (x5 : Int) (hl : (k + 1) * 6 ≤ L.length) :
    (∀ j, j < 6 → (((((((L.set (k * 6) (.string x0)).set (k * 6 + 1) (.string x1)).set (k * 6 + 2) (.int .i64 x2)).set (k * 6 + 3) (.int .i64 x3)).set (k * 6 + 4) (.int .i64 x4)).set (k * 6 + 5) (.int .i64 x5)))[k * 6 + j]? = (({ src := x0, dst := x1, start := x2, takes := x3, days := x4, room := x5 } : LegD).vals)[j]?) ∧ (∀ i, i < k * 6 → (((((((L.set (k * 6) (.string x0)).set (k * 6 + 1) (.string x1)).set (k * 6 + 2) (.int .i64 x2)).set (k * 6 + 3) (.int .i64 x3)).set (k * 6 + 4) (.int .i64 x4)).set (k * 6 + 5) (.int .i64 x5)))[i]? = L[i]?) := by
  refine ⟨fun j hj => ?_, fun i hi => ?_⟩
  · have hd : LegD.vals { src := x0, dst := x1, start := x2, takes := x3, days := x4, room := x5 } = [.string x0, .string x1, .int .i64 x2, .int .i64 x3, .int .i64 x4, .int .i64 x5] := rfl
    rw [hd]
    simp only [List.getElem?_set, List.length_set]
    rcases (show j = 0 ∨ j = 1 ∨ j = 2 ∨ j = 3 ∨ j = 4 ∨ j = 5 from by omega) with rfl | rfl | rfl | rfl | rfl | rfl
    · rw [if_neg (by omega), if_neg (by omega), if_neg (by omega), if_neg (by omega), if_neg (by omega), if_pos (by omega), if_pos (by omega)]; rfl
    · rw [if_neg (by omega), if_neg (by omega), if_neg (by omega), if_neg (by omega), if_pos (by omega), if_pos (by omega)]; rfl
    · rw [if_neg (by omega), if_neg (by omega), if_neg (by omega), if_pos (by omega), if_pos (by omega)]; rfl
    · rw [if_neg (by omega), if_neg (by omega), if_pos (by omega), if_pos (by omega)]; rfl
    · rw [if_neg (by omega), if_pos (by omega), if_pos (by omega)]; rfl
    · rw [if_pos (by omega), if_pos (by omega)]; rfl
  · simp only [List.getElem?_set]
    rw [if_neg (by omega), if_neg (by omega), if_neg (by omega), if_neg (by omega), if_neg (by omega), if_neg (by omega)]
set_option maxHeartbeats 800000 in
theorem toLeg_el (x0 : ByteArray) (x1 : ByteArray) (x2 : Int) (x3 : Int) (x4 : Int) (x5 : Int) (w : World) : Calls Try.prog 51 #[.agg #[.string x0, .string x1, .int .i64 x2, .int .i64 x3, .int .i64 x4, .int .i64 x5]] w fun e w' => e = .returned (.agg #[.string x0, .string x1, .int .i64 x2, .int .i64 x3, .int .i64 x4, .int .i64 x5]) ∧ Below w.heap.size w w' := by
  go_enter Try.func51, Try.ntmps51
  go_wp2
  go_returns
  exact ⟨rfl, by go_grown⟩
theorem info_Leg : (Try.prog.info? 47).map (fun i => (i.zero, i.size)) = some (some (.agg #[.string ByteArray.empty, .string ByteArray.empty, .int .i64 0, .int .i64 0, .int .i64 0, .int .i64 0]), 6) := by kernel_rfl
theorem bytes_Leg : (Try.prog.info? 47).map (fun i => decide (i.bytes ≤ 96)) = some true := by kernel_rfl
set_option maxHeartbeats 1600000 in
theorem toLegS_any (xs : List LegD) (v : Value) (w : World) (h : SliceOf w 6 LegD.vals v xs) (hn : xs.length ≤ 1048576) : Calls Try.prog 25 #[v] w (MadeR 47 6 LegD.vals xs w) := by
  obtain ⟨A, c, rfl, hl, hm⟩ := h.form
  have hlt0 : (xs.length : Int) ≤ 1048576 := by omega
  clear hl hm
  obtain ⟨i0, hi, hzz⟩ : ∃ i, Try.prog.info? 47 = some i ∧ (i.zero = some (.agg #[.string ByteArray.empty, .string ByteArray.empty, .int .i64 0, .int .i64 0, .int .i64 0, .int .i64 0]) ∧ i.size = 6) := by
    have := info_Leg
    cases hh : Try.prog.info? 47 with
    | none => rw [hh] at this; cases this
    | some i => rw [hh] at this; simp only [Option.map_some, Option.some.injEq, Prod.mk.injEq] at this; exact ⟨i, rfl, this⟩
  obtain ⟨hz0, hz1⟩ := hzz
  have hz2 : i0.bytes ≤ 96 := by
    have := bytes_Leg
    rw [hi] at this
    simpa using this
  have hz3 : i0.bytes * xs.length ≤ 281474976710656 := Nat.le_trans (Nat.mul_le_mul hz2 hn) (by omega)
  go_enter Try.func25, Try.ntmps25
  go_wp2_with (at_make; refine wpList_make_full _ rfl _ _ 29 rfl w.heap.size 47 i0 _ 6 Try.underlying29 hi hz0 hz1 .i64 .i64 _ _ xs.length rfl rfl rfl rfl hz3 (by unfold maxLen; omega) (Nat.le_refl _) ?_; intro w1 hown hg)
  have hB1 : Below w.heap.size w w1 := (Below.refl _ _).grown hg (Nat.le_refl _) (by simp)
  obtain ⟨L0, hL0⟩ : ∃ L0, L0 = (madeCells (Value.agg #[.string ByteArray.empty, .string ByteArray.empty, .int .i64 0, .int .i64 0, .int .i64 0, .int .i64 0]).cells (xs.length * 6)).toList := ⟨_, rfl⟩
  rw [← hL0] at hown
  have hs1 : w.heap.size < w1.heap.size := (World.ownsRow.lt hown w.heap.size rfl).2
  clear hL0 hg hi hz0 hz1 hz2 hz3
  go_loopw [4] (fun i wr => ∃ (k : Nat) (L : List Value), k ≤ xs.length ∧ i = .int .i64 k ∧ wr.ownsRow w.heap.size 47 6 (.slice (some ⟨w.heap.size, 0, none⟩) xs.length xs.length) xs.length L ∧ Below w.heap.size w wr ∧ Hid (∀ (q : Nat) (x : LegD) (j : Nat), q < k → xs[q]? = some x → j < 6 → L[q * 6 + j]? = (x.vals)[j]?)) (fun i _ => xs.length - (intOf i).toNat)
  case atStart => exact ⟨0, L0, Nat.zero_le _, rfl, hown, hB1, fun q x j hq => by omega⟩
  case round =>
    obtain ⟨k, L, hk, rfl, hown', hB, H⟩ := hrel
    by_cases hlt : k < xs.length
    · obtain ⟨b_, off, x, rfl, hb_, hx, hc⟩ := h.cells hlt
      obtain ⟨x0, x1, x2, x3, x4, x5⟩ := x
      · have hlen : L.length = xs.length * 6 := hown'.1
        have c0 : wr.cell? ⟨b_, off + k * 6, none⟩ = some (.string x0) := (hB.cell (p := ⟨b_, _, none⟩) hb_).trans (hc 0 _ rfl)
        have c1 : wr.cell? ⟨b_, off + k * 6 + 1, none⟩ = some (.string x1) := (hB.cell (p := ⟨b_, _, none⟩) hb_).trans (hc 1 _ rfl)
        have c2 : wr.cell? ⟨b_, off + k * 6 + 2, none⟩ = some (.int .i64 x2) := (hB.cell (p := ⟨b_, _, none⟩) hb_).trans (hc 2 _ rfl)
        have c3 : wr.cell? ⟨b_, off + k * 6 + 3, none⟩ = some (.int .i64 x3) := (hB.cell (p := ⟨b_, _, none⟩) hb_).trans (hc 3 _ rfl)
        have c4 : wr.cell? ⟨b_, off + k * 6 + 4, none⟩ = some (.int .i64 x4) := (hB.cell (p := ⟨b_, _, none⟩) hb_).trans (hc 4 _ rfl)
        have c5 : wr.cell? ⟨b_, off + k * 6 + 5, none⟩ = some (.int .i64 x5) := (hB.cell (p := ⟨b_, _, none⟩) hb_).trans (hc 5 _ rfl)
        clear hc
        have hsz : w.heap.size < wr.heap.size := (World.ownsRow.lt hown' w.heap.size rfl).2
        have Hlen := Lib.hid hlen; clear hlen
        go_wp2_with fail
        refine (toLeg_el _ _ _ _ _ _ _).mono ?_
        rintro e w1 ⟨rfl, b1⟩
        have B1 := hB.trans (b1.mono hB.size)
        have O1 : w1.ownsRow w.heap.size 47 6 (.slice (some ⟨w.heap.size, 0, none⟩) xs.length xs.length) xs.length L := by
          refine ⟨hown'.1, ?_⟩
          rcases hown'.2 with h0 | ⟨g, cap, cur, hv, hbg, hgg, rr⟩
          · exact .inl h0
          · exact .inr ⟨g, cap, cur, hv, hbg, by rw [b1.block g (Array.getElem?_eq_some_iff.1 hgg).1]; exact hgg, rr⟩
        have hkn : (k + 1) * 6 ≤ xs.length * 6 := Nat.mul_le_mul_right 6 hlt
        have hl1 := O1.1
        obtain ⟨u0_, t0⟩ : ∃ u, w1.cell? ⟨w.heap.size, k * 6, none⟩ = some u := ⟨_, (O1.cellAt (k * 6) (by omega)).trans (List.getElem?_eq_getElem (by omega))⟩
        have g0 := O1.frozenAt (k * 6)
        obtain ⟨u1_, t1⟩ : ∃ u, w1.cell? ⟨w.heap.size, k * 6 + 1, none⟩ = some u := ⟨_, (O1.cellAt (k * 6 + 1) (by omega)).trans (List.getElem?_eq_getElem (by omega))⟩
        have g1 := O1.frozenAt (k * 6 + 1)
        obtain ⟨u2_, t2⟩ : ∃ u, w1.cell? ⟨w.heap.size, k * 6 + 2, none⟩ = some u := ⟨_, (O1.cellAt (k * 6 + 2) (by omega)).trans (List.getElem?_eq_getElem (by omega))⟩
        have g2 := O1.frozenAt (k * 6 + 2)
        obtain ⟨u3_, t3⟩ : ∃ u, w1.cell? ⟨w.heap.size, k * 6 + 3, none⟩ = some u := ⟨_, (O1.cellAt (k * 6 + 3) (by omega)).trans (List.getElem?_eq_getElem (by omega))⟩
        have g3 := O1.frozenAt (k * 6 + 3)
        obtain ⟨u4_, t4⟩ : ∃ u, w1.cell? ⟨w.heap.size, k * 6 + 4, none⟩ = some u := ⟨_, (O1.cellAt (k * 6 + 4) (by omega)).trans (List.getElem?_eq_getElem (by omega))⟩
        have g4 := O1.frozenAt (k * 6 + 4)
        obtain ⟨u5_, t5⟩ : ∃ u, w1.cell? ⟨w.heap.size, k * 6 + 5, none⟩ = some u := ⟨_, (O1.cellAt (k * 6 + 5) (by omega)).trans (List.getElem?_eq_getElem (by omega))⟩
        have g5 := O1.frozenAt (k * 6 + 5)
        have Hl1 := Lib.hid hl1; clear hl1
        have S0 := (O1.stored (k * 6) (.string x0)).1
        have S1 := (S0.stored (k * 6 + 1) (.string x1)).1
        have S2 := (S1.stored (k * 6 + 2) (.int .i64 x2)).1
        have S3 := (S2.stored (k * 6 + 3) (.int .i64 x3)).1
        have S4 := (S3.stored (k * 6 + 4) (.int .i64 x4)).1
        have S5 := (S4.stored (k * 6 + 5) (.int .i64 x5)).1
        have HS := Lib.hid S5
        clear S0 S1 S2 S3 S4 S5 hown' O1 hkn b1 c0 c1 c2 c3 c4 c5
        go_wp2
        go_roundw
        case rel =>
          refine ⟨k + 1, ((((((L.set (k * 6) (.string x0)).set (k * 6 + 1) (.string x1)).set (k * 6 + 2) (.int .i64 x2)).set (k * 6 + 3) (.int .i64 x3)).set (k * 6 + 4) (.int .i64 x4)).set (k * 6 + 5) (.int .i64 x5)), by omega, by go_num, HS.out, ((((((B1.setCell (Nat.le_refl _) _).setCell (Nat.le_refl _) _).setCell (Nat.le_refl _) _).setCell (Nat.le_refl _) _).setCell (Nat.le_refl _) _).setCell (Nat.le_refl _) _), ?_⟩
          intro q y j hq hy hj
          by_cases e : q = k
          · subst e
            rw [hx.out] at hy
            injection hy with hy
            subst hy
            exact (Leg_sets L q _ _ _ _ _ _ (by have hq' : (q + 1) * 6 ≤ xs.length * 6 := Nat.mul_le_mul_right 6 hlt; have hh := Hlen.out; omega)).1 j hj
          · have hne : q < k := by omega
            have hd : (q + 1) * 6 ≤ k * 6 := Nat.mul_le_mul_right 6 hne
            rw [← H.out q y j hne hy hj]
            exact (Leg_sets L k _ _ _ _ _ _ (by have hq' : (k + 1) * 6 ≤ xs.length * 6 := Nat.mul_le_mul_right 6 hlt; have hh := Hlen.out; omega)).2 _ (by omega)
        case measure => simp [intOf]; omega
    · obtain rfl : k = xs.length := by omega
      have hE : Own wr w.heap.size 47 6 LegD.vals (.slice (some ⟨w.heap.size, 0, none⟩) xs.length xs.length) xs := by
        have := row_eq_pieces Leg_len hown'.1 (fun q x j hx hj => H.out q x j (List.getElem?_eq_some_iff.1 hx).1 hx hj)
        subst this
        exact hown'
      have HE := Lib.hid hE; clear hE hown'
      go_wp2
      go_ret
      exact ⟨_, rfl, HE.out, hB⟩
set_option maxHeartbeats 800000 in
theorem eqLeg_same (x0 : ByteArray) (x1 : ByteArray) (x2 : Int) (x3 : Int) (x4 : Int) (x5 : Int) (w : World) : Calls Try.prog 58 #[.agg #[.string x0, .string x1, .int .i64 x2, .int .i64 x3, .int .i64 x4, .int .i64 x5], .agg #[.string x0, .string x1, .int .i64 x2, .int .i64 x3, .int .i64 x4, .int .i64 x5]] w fun e w' => e = .returned (.bool true) ∧ Below w.heap.size w w' := by
  go_enter Try.func58, Try.ntmps58
  go_wp2
  repeat (go_quiet (fail); go_wp2)
  go_ret
  exact ⟨rfl, by first | go_grown | (refine below_drewN ?_ _; go_grown)⟩
set_option maxHeartbeats 1600000 in
theorem eqLegS_same (xs : List LegD) (u v : Value) (w : World) (hu : SliceOf w 6 LegD.vals u xs) (hv : SliceOf w 6 LegD.vals v xs) : Calls Try.prog 35 #[u, v] w fun e w' => e = .returned (.bool true) ∧ Below w.heap.size w w' := by
  obtain ⟨A, c_, rfl, hl, hm⟩ := hu.form
  obtain ⟨A', c', rfl, hl', hm'⟩ := hv.form
  unfold maxLen at hm hm'
  go_enter Try.func35, Try.ntmps35
  go_wp2
  go_loopw [5] (fun i wr => ∃ k : Nat, k ≤ xs.length ∧ i = .int .i64 k ∧ Below w.heap.size w wr) (fun i _ => xs.length - (intOf i).toNat)
  case atStart => exact ⟨0, Nat.zero_le _, rfl, Below.refl _ _⟩
  case round =>
    obtain ⟨k, hk, rfl, hB⟩ := hrel
    by_cases hlt : k < xs.length
    · obtain ⟨b_, off, x, rfl, hb_, hx, hc⟩ := hu.cells hlt
      obtain ⟨b2, off2, y, rfl, hb2, hy, hd⟩ := hv.cells hlt
      obtain rfl : x = y := by have := hx.out.symm.trans hy.out; injection this
      obtain ⟨x0, x1, x2, x3, x4, x5⟩ := x
      · · skip
          have c0 : wr.cell? ⟨b_, off + k * 6, none⟩ = some (.string x0) := (hB.cell (p := ⟨b_, _, none⟩) hb_).trans (hc 0 _ rfl)
          have d0 : wr.cell? ⟨b2, off2 + k * 6, none⟩ = some (.string x0) := (hB.cell (p := ⟨b2, _, none⟩) hb2).trans (hd 0 _ rfl)
          have c1 : wr.cell? ⟨b_, off + k * 6 + 1, none⟩ = some (.string x1) := (hB.cell (p := ⟨b_, _, none⟩) hb_).trans (hc 1 _ rfl)
          have d1 : wr.cell? ⟨b2, off2 + k * 6 + 1, none⟩ = some (.string x1) := (hB.cell (p := ⟨b2, _, none⟩) hb2).trans (hd 1 _ rfl)
          have c2 : wr.cell? ⟨b_, off + k * 6 + 2, none⟩ = some (.int .i64 x2) := (hB.cell (p := ⟨b_, _, none⟩) hb_).trans (hc 2 _ rfl)
          have d2 : wr.cell? ⟨b2, off2 + k * 6 + 2, none⟩ = some (.int .i64 x2) := (hB.cell (p := ⟨b2, _, none⟩) hb2).trans (hd 2 _ rfl)
          have c3 : wr.cell? ⟨b_, off + k * 6 + 3, none⟩ = some (.int .i64 x3) := (hB.cell (p := ⟨b_, _, none⟩) hb_).trans (hc 3 _ rfl)
          have d3 : wr.cell? ⟨b2, off2 + k * 6 + 3, none⟩ = some (.int .i64 x3) := (hB.cell (p := ⟨b2, _, none⟩) hb2).trans (hd 3 _ rfl)
          have c4 : wr.cell? ⟨b_, off + k * 6 + 4, none⟩ = some (.int .i64 x4) := (hB.cell (p := ⟨b_, _, none⟩) hb_).trans (hc 4 _ rfl)
          have d4 : wr.cell? ⟨b2, off2 + k * 6 + 4, none⟩ = some (.int .i64 x4) := (hB.cell (p := ⟨b2, _, none⟩) hb2).trans (hd 4 _ rfl)
          have c5 : wr.cell? ⟨b_, off + k * 6 + 5, none⟩ = some (.int .i64 x5) := (hB.cell (p := ⟨b_, _, none⟩) hb_).trans (hc 5 _ rfl)
          have d5 : wr.cell? ⟨b2, off2 + k * 6 + 5, none⟩ = some (.int .i64 x5) := (hB.cell (p := ⟨b2, _, none⟩) hb2).trans (hd 5 _ rfl)
          clear hc hd
          go_wp2
          go_still_tail 8, (by kernel_rfl)
          change wpList _ _ _ _ _ wr.drew
          go_wp2_with fail
          refine (eqLeg_same _ _ _ _ _ _ _).mono ?_
          rintro e w1 ⟨rfl, b1⟩
          have B1 : Below w.heap.size w w1 := hB.drew.trans (b1.mono hB.size)
          go_wp2
          go_roundw
          case rel => exact ⟨k + 1, by omega, by go_num, B1⟩
          case measure => simp [intOf]; omega
    · obtain rfl : k = xs.length := by omega
      go_wp2
      go_ret
      exact ⟨rfl, hB⟩
end Go.Proofs.Ytdmeinfdldiegaa
