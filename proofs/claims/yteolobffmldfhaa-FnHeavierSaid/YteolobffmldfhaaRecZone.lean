/- How the laws measure, copy and compare Zone records and slices of them. No condition. -/
import Derived.Test.YteolobffmldfhaaRecs
namespace Go.Proofs.Yteolobffmldfhaa
open Go.RowKit Go.PlainAid
set_option maxRecDepth 100000
set_option linter.unusedVariables false
theorem Zone_len : ∀ x : ZoneD, x.vals.length = 2 := fun _ => rfl
set_option maxHeartbeats 800000 in
theorem szZone_el (x0 : ByteArray) (x1 : ByteArray) (left : Int) (w : World) (hl : 0 ≤ left) (hl2 : left ≤ 1048576) (h1 : x0.size ≤ maxLen) (h2 : x1.size ≤ maxLen) :
    Calls Try.prog 79 #[.agg #[.string x0, .string x1], .int .i64 left] w (SzPost (x0.size + x1.size) left w) := by
  unfold maxLen at h1 h2
  by_cases h : left < x0.size
  · go_enter Try.func79, Try.ntmps79
    go_wp2
    go_ret
    exact ⟨_, rfl, by omega, by omega, by omega, by go_grown⟩
  · by_cases h2 : left - x0.size < x1.size
    · go_enter Try.func79, Try.ntmps79
      go_wp2
      go_ret
      exact ⟨_, rfl, by omega, by omega, by omega, by go_grown⟩
    · go_enter Try.func79, Try.ntmps79
      go_wp2
      go_ret
      exact ⟨_, rfl, by omega, by omega, by omega, by go_grown⟩
set_option maxHeartbeats 1600000 in
theorem szZoneS_any (xs : List ZoneD) (left : Int) (v : Value) (w : World) (hok : ∀ x ∈ xs, x.ok) (h : SliceOf w 2 ZoneD.vals v xs) (hl : 0 ≤ left) (hl2 : left ≤ 1048576) :
    Calls Try.prog 42 #[v, .int .i64 left] w (SzsPost xs.length left w) := by
  obtain ⟨A, c, rfl, hle, hm⟩ := h.form
  unfold maxLen at hm
  by_cases hb : left < xs.length
  · go_enter Try.func42, Try.ntmps42
    go_wp2
    go_ret
    exact ⟨_, rfl, by omega, by omega, by omega, Below.refl _ _⟩
  · go_enter Try.func42, Try.ntmps42
    go_wp2
    go_loopw [1, 5] (fun l i wr => ∃ (k : Nat) (r : Int), k ≤ xs.length ∧ i = .int .i64 k ∧ l = .int .i64 r ∧ 0 ≤ r ∧ r ≤ left ∧ Below w.heap.size w wr) (fun _ i _ => xs.length - (intOf i).toNat)
    case atStart => exact ⟨0, _, Nat.zero_le _, rfl, rfl, by omega, by omega, Below.refl _ _⟩
    case round =>
      obtain ⟨k, r, hk, rfl, rfl, r0, r1, hB⟩ := hrel
      by_cases hlt : k < xs.length
      · obtain ⟨b_, off, x, rfl, hb_, hx, hc⟩ := h.cells hlt
        have hxo := hok x (mem_of hx.out)
        obtain ⟨x0, x1⟩ := x
        have c0 : wr.cell? ⟨b_, off + k * 2, none⟩ = some (.string x0) := (hB.cell (p := ⟨b_, _, none⟩) hb_).trans (hc 0 _ rfl)
        have c1 : wr.cell? ⟨b_, off + k * 2 + 1, none⟩ = some (.string x1) := (hB.cell (p := ⟨b_, _, none⟩) hb_).trans (hc 1 _ rfl)
        have s1 := hxo.1
        have s2 := hxo.2
        simp only at s1 s2
        clear hc hxo
        go_wp2_with fail
        refine (szZone_el _ _ _ _ r0 (by omega) s1 s2).mono ?_
        rintro e w1 ⟨q, rfl, q1, q2, q3, b1⟩
        have B1 := hB.trans (b1.mono hB.size)
        by_cases hq : q < 0
        · go_wp2
          go_ret
          exact ⟨_, rfl, by omega, by omega, by omega, B1⟩
        · go_wp2
          go_roundw
          case rel => exact ⟨k + 1, q, by omega, by go_num, rfl, by omega, by omega, B1⟩
          case measure => simp [intOf]; omega
      · go_wp2
        go_ret
        exact ⟨_, rfl, by omega, by omega, by omega, hB⟩
theorem Zone_sets (L : List Value) (k : Nat) (x0 : ByteArray) (x1 : ByteArray) (hl : (k + 1) * 2 ≤ L.length) :
    (∀ j, j < 2 → (((L.set (k * 2) (.string x0)).set (k * 2 + 1) (.string x1)))[k * 2 + j]? = (({ first := x0, last := x1 } : ZoneD).vals)[j]?) ∧ (∀ i, i < k * 2 → (((L.set (k * 2) (.string x0)).set (k * 2 + 1) (.string x1)))[i]? = L[i]?) := by
  refine ⟨fun j hj => ?_, fun i hi => ?_⟩
  · have hd : ZoneD.vals { first := x0, last := x1 } = [.string x0, .string x1] := rfl
    rw [hd]
    simp only [List.getElem?_set, List.length_set]
    rcases (show j = 0 ∨ j = 1 from by omega) with rfl | rfl
    · rw [if_neg (by omega), if_pos (by omega), if_pos (by omega)]; rfl
    · rw [if_pos (by omega), if_pos (by omega)]; rfl
  · simp only [List.getElem?_set]
    rw [if_neg (by omega), if_neg (by omega)]
set_option maxHeartbeats 800000 in
theorem toZone_el (x0 : ByteArray) (x1 : ByteArray) (w : World) : Calls Try.prog 80 #[.agg #[.string x0, .string x1]] w fun e w' => e = .returned (.agg #[.string x0, .string x1]) ∧ Below w.heap.size w w' := by
  go_enter Try.func80, Try.ntmps80
  go_wp2
  go_returns
  exact ⟨rfl, by go_grown⟩
theorem info_Zone : (Try.prog.info? 91).map (fun i => (i.zero, i.size)) = some (some (.agg #[.string ByteArray.empty, .string ByteArray.empty]), 2) := by kernel_rfl
theorem bytes_Zone : (Try.prog.info? 91).map (fun i => decide (i.bytes ≤ 96)) = some true := by kernel_rfl
set_option maxHeartbeats 1600000 in
theorem toZoneS_any (xs : List ZoneD) (v : Value) (w : World) (h : SliceOf w 2 ZoneD.vals v xs) (hn : xs.length ≤ 1048576) : Calls Try.prog 44 #[v] w (MadeR 91 2 ZoneD.vals xs w) := by
  obtain ⟨A, c, rfl, hl, hm⟩ := h.form
  have hlt0 : (xs.length : Int) ≤ 1048576 := by omega
  clear hl hm
  obtain ⟨i0, hi, hzz⟩ : ∃ i, Try.prog.info? 91 = some i ∧ (i.zero = some (.agg #[.string ByteArray.empty, .string ByteArray.empty]) ∧ i.size = 2) := by
    have := info_Zone
    cases hh : Try.prog.info? 91 with
    | none => rw [hh] at this; cases this
    | some i => rw [hh] at this; simp only [Option.map_some, Option.some.injEq, Prod.mk.injEq] at this; exact ⟨i, rfl, this⟩
  obtain ⟨hz0, hz1⟩ := hzz
  have hz2 : i0.bytes ≤ 96 := by
    have := bytes_Zone
    rw [hi] at this
    simpa using this
  have hz3 : i0.bytes * xs.length ≤ 281474976710656 := Nat.le_trans (Nat.mul_le_mul hz2 hn) (by omega)
  go_enter Try.func44, Try.ntmps44
  go_wp2_with (at_make; refine wpList_make_full _ rfl _ _ 47 rfl w.heap.size 91 i0 _ 2 Try.underlying47 hi hz0 hz1 .i64 .i64 _ _ xs.length rfl rfl rfl rfl hz3 (by unfold maxLen; omega) (Nat.le_refl _) ?_; intro w1 hown hg)
  have hB1 : Below w.heap.size w w1 := (Below.refl _ _).grown hg (Nat.le_refl _) (by simp)
  obtain ⟨L0, hL0⟩ : ∃ L0, L0 = (madeCells (Value.agg #[.string ByteArray.empty, .string ByteArray.empty]).cells (xs.length * 2)).toList := ⟨_, rfl⟩
  rw [← hL0] at hown
  have hs1 : w.heap.size < w1.heap.size := (World.ownsRow.lt hown w.heap.size rfl).2
  clear hL0 hg hi hz0 hz1 hz2 hz3
  go_loopw [4] (fun i wr => ∃ (k : Nat) (L : List Value), k ≤ xs.length ∧ i = .int .i64 k ∧ wr.ownsRow w.heap.size 91 2 (.slice (some ⟨w.heap.size, 0, none⟩) xs.length xs.length) xs.length L ∧ Below w.heap.size w wr ∧ Hid (∀ (q : Nat) (x : ZoneD) (j : Nat), q < k → xs[q]? = some x → j < 2 → L[q * 2 + j]? = (x.vals)[j]?)) (fun i _ => xs.length - (intOf i).toNat)
  case atStart => exact ⟨0, L0, Nat.zero_le _, rfl, hown, hB1, fun q x j hq => by omega⟩
  case round =>
    obtain ⟨k, L, hk, rfl, hown', hB, H⟩ := hrel
    by_cases hlt : k < xs.length
    · obtain ⟨b_, off, x, rfl, hb_, hx, hc⟩ := h.cells hlt
      obtain ⟨x0, x1⟩ := x
      · have hlen : L.length = xs.length * 2 := hown'.1
        have c0 : wr.cell? ⟨b_, off + k * 2, none⟩ = some (.string x0) := (hB.cell (p := ⟨b_, _, none⟩) hb_).trans (hc 0 _ rfl)
        have c1 : wr.cell? ⟨b_, off + k * 2 + 1, none⟩ = some (.string x1) := (hB.cell (p := ⟨b_, _, none⟩) hb_).trans (hc 1 _ rfl)
        clear hc
        have hsz : w.heap.size < wr.heap.size := (World.ownsRow.lt hown' w.heap.size rfl).2
        have Hlen := Lib.hid hlen; clear hlen
        go_wp2_with fail
        refine (toZone_el _ _ _).mono ?_
        rintro e w1 ⟨rfl, b1⟩
        have B1 := hB.trans (b1.mono hB.size)
        have O1 : w1.ownsRow w.heap.size 91 2 (.slice (some ⟨w.heap.size, 0, none⟩) xs.length xs.length) xs.length L := by
          refine ⟨hown'.1, ?_⟩
          rcases hown'.2 with h0 | ⟨g, cap, cur, hv, hbg, hgg, rr⟩
          · exact .inl h0
          · exact .inr ⟨g, cap, cur, hv, hbg, by rw [b1.block g (Array.getElem?_eq_some_iff.1 hgg).1]; exact hgg, rr⟩
        have hkn : (k + 1) * 2 ≤ xs.length * 2 := Nat.mul_le_mul_right 2 hlt
        have hl1 := O1.1
        obtain ⟨u0_, t0⟩ : ∃ u, w1.cell? ⟨w.heap.size, k * 2, none⟩ = some u := ⟨_, (O1.cellAt (k * 2) (by omega)).trans (List.getElem?_eq_getElem (by omega))⟩
        have g0 := O1.frozenAt (k * 2)
        obtain ⟨u1_, t1⟩ : ∃ u, w1.cell? ⟨w.heap.size, k * 2 + 1, none⟩ = some u := ⟨_, (O1.cellAt (k * 2 + 1) (by omega)).trans (List.getElem?_eq_getElem (by omega))⟩
        have g1 := O1.frozenAt (k * 2 + 1)
        have Hl1 := Lib.hid hl1; clear hl1
        have S0 := (O1.stored (k * 2) (.string x0)).1
        have S1 := (S0.stored (k * 2 + 1) (.string x1)).1
        have HS := Lib.hid S1
        clear S0 S1 hown' O1 hkn b1 c0 c1
        go_wp2
        go_roundw
        case rel =>
          refine ⟨k + 1, ((L.set (k * 2) (.string x0)).set (k * 2 + 1) (.string x1)), by omega, by go_num, HS.out, ((B1.setCell (Nat.le_refl _) _).setCell (Nat.le_refl _) _), ?_⟩
          intro q y j hq hy hj
          by_cases e : q = k
          · subst e
            rw [hx.out] at hy
            injection hy with hy
            subst hy
            exact (Zone_sets L q _ _ (by have hq' : (q + 1) * 2 ≤ xs.length * 2 := Nat.mul_le_mul_right 2 hlt; have hh := Hlen.out; omega)).1 j hj
          · have hne : q < k := by omega
            have hd : (q + 1) * 2 ≤ k * 2 := Nat.mul_le_mul_right 2 hne
            rw [← H.out q y j hne hy hj]
            exact (Zone_sets L k _ _ (by have hq' : (k + 1) * 2 ≤ xs.length * 2 := Nat.mul_le_mul_right 2 hlt; have hh := Hlen.out; omega)).2 _ (by omega)
        case measure => simp [intOf]; omega
    · obtain rfl : k = xs.length := by omega
      have hE : Own wr w.heap.size 91 2 ZoneD.vals (.slice (some ⟨w.heap.size, 0, none⟩) xs.length xs.length) xs := by
        have := row_eq_pieces Zone_len hown'.1 (fun q x j hx hj => H.out q x j (List.getElem?_eq_some_iff.1 hx).1 hx hj)
        subst this
        exact hown'
      have HE := Lib.hid hE; clear hE hown'
      go_wp2
      go_ret
      exact ⟨_, rfl, HE.out, hB⟩
set_option maxHeartbeats 800000 in
theorem eqZone_same (x0 : ByteArray) (x1 : ByteArray) (w : World) : Calls Try.prog 82 #[.agg #[.string x0, .string x1], .agg #[.string x0, .string x1]] w fun e w' => e = .returned (.bool true) ∧ Below w.heap.size w w' := by
  go_enter Try.func82, Try.ntmps82
  go_wp2
  repeat (go_quiet (fail); go_wp2)
  go_ret
  exact ⟨rfl, by first | go_grown | (refine below_drewN ?_ _; go_grown)⟩
set_option maxHeartbeats 1600000 in
theorem eqZoneS_same (xs : List ZoneD) (u v : Value) (w : World) (hu : SliceOf w 2 ZoneD.vals u xs) (hv : SliceOf w 2 ZoneD.vals v xs) : Calls Try.prog 46 #[u, v] w fun e w' => e = .returned (.bool true) ∧ Below w.heap.size w w' := by
  obtain ⟨A, c_, rfl, hl, hm⟩ := hu.form
  obtain ⟨A', c', rfl, hl', hm'⟩ := hv.form
  unfold maxLen at hm hm'
  go_enter Try.func46, Try.ntmps46
  go_wp2
  go_loopw [5] (fun i wr => ∃ k : Nat, k ≤ xs.length ∧ i = .int .i64 k ∧ Below w.heap.size w wr) (fun i _ => xs.length - (intOf i).toNat)
  case atStart => exact ⟨0, Nat.zero_le _, rfl, Below.refl _ _⟩
  case round =>
    obtain ⟨k, hk, rfl, hB⟩ := hrel
    by_cases hlt : k < xs.length
    · obtain ⟨b_, off, x, rfl, hb_, hx, hc⟩ := hu.cells hlt
      obtain ⟨b2, off2, y, rfl, hb2, hy, hd⟩ := hv.cells hlt
      obtain rfl : x = y := by have := hx.out.symm.trans hy.out; injection this
      obtain ⟨x0, x1⟩ := x
      · · skip
          have c0 : wr.cell? ⟨b_, off + k * 2, none⟩ = some (.string x0) := (hB.cell (p := ⟨b_, _, none⟩) hb_).trans (hc 0 _ rfl)
          have d0 : wr.cell? ⟨b2, off2 + k * 2, none⟩ = some (.string x0) := (hB.cell (p := ⟨b2, _, none⟩) hb2).trans (hd 0 _ rfl)
          have c1 : wr.cell? ⟨b_, off + k * 2 + 1, none⟩ = some (.string x1) := (hB.cell (p := ⟨b_, _, none⟩) hb_).trans (hc 1 _ rfl)
          have d1 : wr.cell? ⟨b2, off2 + k * 2 + 1, none⟩ = some (.string x1) := (hB.cell (p := ⟨b2, _, none⟩) hb2).trans (hd 1 _ rfl)
          clear hc hd
          go_wp2
          go_still_tail 8, (by kernel_rfl)
          change wpList _ _ _ _ _ wr.drew
          go_wp2_with fail
          refine (eqZone_same _ _ _).mono ?_
          rintro e w1 ⟨rfl, b1⟩
          have B1 : Below w.heap.size w w1 := hB.drew.trans (b1.mono hB.size)
          go_wp2
          go_roundw
          case rel => exact ⟨k + 1, by omega, by go_num, B1⟩
          case measure => simp [intOf]; omega
    · obtain rfl : k = xs.length := by omega
      go_wp2
      go_ret
      exact ⟨rfl, hB⟩
end Go.Proofs.Yteolobffmldfhaa
