/- The law FnTripsFrom walked: it returns true. No condition. -/
import Derived.Test.YtdmeinfdldiegaaTripsMore
import Derived.Test.YtdmeinfdldiegaaDrawTrips
import Derived.Deep.RegionHeld3
namespace Go.Proofs.Ytdmeinfdldiegaa
open Go.RowKit Go.PlainAid
set_option maxRecDepth 100000
set_option linter.unusedVariables false
theorem bigT (xs : List Int) (v : Value) (w : World) (h : SliceOf w 1 vB v xs) : Calls Try.prog 14 #[v] w fun e w' => e = .returned (.bool (decide (4096 < (xs.length : Int)))) ∧ w = w' := by
  obtain ⟨A, c, rfl, hle, hm⟩ := h.form
  go_enter Try.func14, Try.ntmps14
  go_wp2
  go_ret
  exact ⟨rfl, rfl⟩
theorem netB_legs20 {legs : List LegD} {off : List Int} {ch : Int} (h : netB legs off ch = true) : legs.length ≤ 20 := by
  unfold netB at h
  simp only [Bool.and_eq_true, decide_eq_true_eq] at h
  exact h.1.1.2
set_option maxHeartbeats 12800000 in
theorem walk_TripsFrom (v0 : Value) (w : World) (p0 : VBytes w v0) : Calls Try.prog 4 #[v0] w fun e w' => e = .returned (.bool true) ∧ Below w.heap.size w w' := by
  obtain ⟨cs, hok0, h0⟩ := p0
  obtain ⟨i0, hi, hz0, hz1, hz2⟩ := info_parts info_tripT
  by_cases hb : 4096 < (cs.length : Int)
  · have hb' : decide (4096 < (cs.length : Int)) = true := decide_eq_true hb
    go_enter Try.func4, Try.ntmps4
    go_wp2_with (go_at_call 14; refine (bigT cs _ _ h0).mono ?_; rintro e w' ⟨rfl, rfl⟩)
    go_ret
    exact ⟨rfl, Below.refl _ _⟩
  have hb' : decide (4096 < (cs.length : Int)) = false := decide_eq_false hb
  obtain ⟨A0, k0, rfl, hle0, hm0⟩ := h0.form
  go_enter Try.func4, Try.ntmps4
  go_wp2_with (go_at_call 14; refine (bigT cs _ _ h0).mono ?_; rintro e w' ⟨rfl, rfl⟩)
  refine (drawTrips_any cs _ _ h0).mono ?_
  rintro e w1 ⟨A, Ao, cl, co, legs, off, ch, p, a, b, rfl, sl, hok, so, hoff, oc, oa, ob, b1⟩
  by_cases g1 : a < 0
  · go_wp2_with fail
    go_ret
    exact ⟨rfl, chain b1 (below_allocI (Below.refl _ _) _)⟩
  by_cases g2 : 100000 < b
  · go_wp2_with fail
    go_ret
    exact ⟨rfl, chain b1 (below_allocI (Below.refl _ _) _)⟩
  by_cases g3 : b < a
  · go_wp2_with fail
    go_ret
    exact ⟨rfl, chain b1 (below_allocI (Below.refl _ _) _)⟩
  go_wp2_with fail
  obtain ⟨W1, hW⟩ : ∃ W, W = w1.alloc (.cells #[.slice A legs.length cl, .slice Ao off.length co, .int .i64 ch] 31) := ⟨_, rfl⟩
  rw [← hW]
  obtain ⟨g, hg⟩ : ∃ g, g = w1.heap.size := ⟨_, rfl⟩
  rw [← hg]
  have n0 : W1.cell? ⟨g, 0, none⟩ = some (.slice A legs.length cl) := by rw [hW, hg]; simp [go_sem]
  have n1 : W1.cell? ⟨g, 1, none⟩ = some (.slice Ao off.length co) := by rw [hW, hg]; simp [go_sem]
  have n2 : W1.cell? ⟨g, 2, none⟩ = some (.int .i64 ch) := by rw [hW, hg]; simp [go_sem]
  have bW : Below w1.heap.size w1 W1 := by rw [hW]; exact below_allocI (Below.refl _ _) _
  clear hW
  have B1 := chain b1 bW
  replace sl := sl.keep bW (Nat.le_refl _)
  replace so := so.keep bW (Nat.le_refl _)
  have HG := Lib.hid hg; clear hg bW b1
  refine (atT_any cs _ 1 _ (by omega) hok0 (h0.keep B1 (Nat.le_refl _))).mono ?_
  rintro e w2 ⟨x, rfl, x0, x1, rfl⟩
  obtain ⟨y, hy⟩ : ∃ y, y = (b - a) * x := ⟨_, rfl⟩
  have y0 : 0 ≤ y := by rw [hy]; exact Int.mul_nonneg (by omega) x0
  have y1 : y ≤ (b - a) * 255 := by rw [hy]; exact Int.mul_le_mul_of_nonneg_left x1 (by omega)
  have hmul : IntKind.i64.wrap ((b - a) * x) = y := by rw [← hy]; exact IntWalk.i64_in _ (by omega)
  have hmul2 : (b - a) * x = y := hy.symm
  obtain ⟨q, hq⟩ : ∃ q, q = y / 256 := ⟨_, rfl⟩
  have hq1 : y.tdiv 256 = q := by rw [Int.tdiv_eq_ediv_of_nonneg y0, hq]
  have hq2 : y / 256 = q := hq.symm
  have q0 : 0 ≤ q := by omega
  have q1 : q ≤ b - a := by omega
  clear hy hq
  go_wp2_with fail
  obtain ⟨m, hm⟩ : ∃ m, m = a + q := ⟨_, rfl⟩
  rw [← hm]
  have am : a ≤ m := by omega
  have mb : m ≤ b := by omega
  clear hm hq1 hq2 hmul hmul2 q0 q1 y0 y1 x0 x1
  refine (tripsIN legs off ch p a b _ _ _ hok sl so).mono ?_
  rintro e w3 ⟨v1, L, rfl, o1, H1, hl1, b3, ne1⟩
  obtain ⟨gr, cr, rfl, -, -, -, -⟩ := o1.some1 ne1
  replace n0 := cell_keep b3 n0
  replace n1 := cell_keep b3 n1
  replace n2 := cell_keep b3 n2
  replace sl := sl.keep b3 (Nat.le_refl _)
  replace so := so.keep b3 (Nat.le_refl _)
  have B3 := chain B1 b3
  clear b3 B1 ne1
  go_wp2_with fail
  refine (tripsS legs off ch p a b _ _ _ hok sl so).mono ?_
  rintro e w4 ⟨v2, L2, rfl, o2, H2, hl2, b4⟩
  obtain rfl := TripsAre.unique H1.out H2.out
  obtain ⟨A2, c2, rfl, -, -⟩ := o2.form
  replace n0 := cell_keep b4 n0
  replace n1 := cell_keep b4 n1
  replace n2 := cell_keep b4 n2
  replace sl := sl.keep b4 (Nat.le_refl _)
  replace so := so.keep b4 (Nat.le_refl _)
  replace o1 := o1.keep b4 (Nat.le_refl _)
  have B4 := chain B3 b4
  clear b4 B3 o2 H2 hl2
  have hneq : ((L.length : Int) != (L.length : Int)) = false := by simp
  go_wp2_with fail
  obtain ⟨wz, hwz⟩ : ∃ wz : World, wz = w4 := ⟨_, rfl⟩
  have bR := Lib.hid (Below.refl w4.heap.size w4).drew
  have q0 := cell_drewI n0
  have q1 := cell_drewI n1
  have q2 := cell_drewI n2
  have HO1 := Lib.hid o1; have HH1 := H1; clear o1 H1
  have HN0 := Lib.hid n0; have HN1 := Lib.hid n1; have HN2 := Lib.hid n2
  go_region_held3 (fun Q => Q.cell? ⟨g, 0, none⟩ = some (.slice A legs.length cl) ∧ Q.cell? ⟨g, 1, none⟩ = some (.slice Ao off.length co) ∧ Q.cell? ⟨g, 2, none⟩ = some (.int .i64 ch) ∧ Below w4.heap.size w4 Q)
    (((try go_split_ands); refine ⟨?_, ?_, ?_, ?_⟩ <;> first | with_reducible assumption | with_reducible exact bR.out | (with_reducible apply cell_keep <;> with_reducible assumption) | (with_reducible apply chain' <;> with_reducible assumption) | (with_reducible apply cell_drewI; with_reducible assumption) | (with_reducible apply Below.drew; with_reducible assumption)))
    ((first
      | (go_at_call 8; (try go_split_ands); (with_reducible refine (tripsIN legs off ch p a m _ _ _ hok (sl.keep (by assumption) (Nat.le_refl _)) (so.keep (by assumption) (Nat.le_refl _))).mono ?_); rintro e w8 ⟨v8, L8, rfl, o8, H8, hl8, b8, ne8⟩)
      | (go_at_call 8; (try go_split_ands); (with_reducible refine (tripsIN legs off ch p m b _ _ _ hok (sl.keep (by assumption) (Nat.le_refl _)) (so.keep (by assumption) (Nat.le_refl _))).mono ?_); rintro e w9 ⟨v9, L9, rfl, o9, H9, hl9, b9, ne9⟩; obtain ⟨g9, c9, rfl, -, -, -, -⟩ := o9.some1 ne9)
      | (refine step_append_vals (vals := TripD.vals) (size := 2) (bytes := 16) Trip_len Trip_one (by decide) Try.underlying27 hi hz0 hz1 hz2 rfl (by decide) (by rfl) (.tmp 58) (.tmp 63) (by rfl) (wt := w4) ?_ _ L8 rfl ?_ _ L9.length c9 L9 rfl rfl ?_ ?_ ?_
         ((try go_split_ands); assumption)
         exact (o8.keep b9 (Nat.le_refl _)).mono (Nat.le_refl _)
         exact add_at0 (own_news Trip_len o9)
         exact (show L8.length + L9.length ≤ 4194304 by omega)
         intro v10 w10 o10 b10 nn10 gr10)))
  all_goals
    (try go_split_ands)
    have hL : L = L8 ++ L9 := TripsAre.join HH1.out H8.out H9.out am mb
    rw [← hL] at o10
    obtain ⟨A10, c10, rfl, -, -⟩ := o10.form
    replace sl := sl.keep b10 (Nat.le_refl _)
    replace so := so.keep b10 (Nat.le_refl _)
    have m0 := cell_keep b10 HN0.out
    have m1 := cell_keep b10 HN1.out
    have m2 := cell_keep b10 HN2.out
    have o1 := HO1.out.keep b10 (Nat.le_refl _)
    have B10 := chain B4 b10
    clear o8 o9 H8 H9 hl8 hl9 b8 b9 ne8 ne9 b10 nn10 gr10 hL HO1 HN0 HN1 HN2 B4
    go_wp2_with fail
    go_loopw [10] (fun iv wr => ∃ i : Nat, i ≤ L.length ∧ iv = .int .i64 (i : Int) ∧ Below w10.heap.size w10 wr) (fun iv _ => L.length - (intOf iv).toNat)
    case atStart => exact ⟨0, Nat.zero_le _, rfl, Below.refl _ _⟩
    case round =>
      obtain ⟨i, hil, rfl, hB⟩ := hrel
      by_cases hi2 : i < L.length
      · obtain ⟨t, ht⟩ : ∃ t, L[i]? = some t := ⟨_, List.getElem?_eq_getElem hi2⟩
        obtain ⟨hnet, hrun, q, x, htl, hql, hx, hxp, ha1, hb1, hy0, hy1⟩ := HH1.out.each ht
        have HO := Lib.hid (fun (s : TripD) (k : Nat) (hk : i = k + 1) (hs : L[k]? = some s) => HH1.out.order hs (by rw [← hk]; exact ht))
        have o1r := o1.keep hB (Nat.le_refl _)
        obtain ⟨r0, r1⟩ := own_cells2 o1r ht
        obtain ⟨tl, ty⟩ := t
        simp only at htl hy0 hy1 r0 r1 hrun
        subst htl
        have x0 := cell_keep hB m0
        have x1 := cell_keep hB m1
        have x2 := cell_keep hB m2
        have SL := sl.keep hB (Nat.le_refl _)
        have SO := so.keep hB (Nat.le_refl _)
        obtain ⟨b_, off_, x', rfl, hb_, hx', hcell⟩ := SL.cells hql
        obtain rfl : x' = x := by have := hx'.out.symm.trans hx; injection this
        obtain ⟨f, z1, z2, z3, z4, z5⟩ := x'
        simp only at hxp
        subst hxp
        have cf : wr.cell? ⟨b_, off_ + q * 6, none⟩ = some (.string f) := hcell 0 _ rfl
        clear hcell hx hx' hb_
        obtain ⟨S1, hS1⟩ : ∃ S1, S1 = startT legs (q : Int) ty := ⟨_, rfl⟩
        have ha2 : a ≤ S1 := by rw [hS1]; exact ha1
        have hb2 : S1 < b := by rw [hS1]; exact hb1
        have oq : okI (q : Int) := by have := netB_legs20 hnet; unfold okI; omega
        have oy : okI ty := by unfold okI; omega
        have CT := Lib.hid (fun (Q : World) (s1 : SliceOf Q 6 LegD.vals (.slice (some ⟨b_, off_, none⟩) legs.length cl) legs) (s2 : SliceOf Q 1 vI (.slice Ao off.length co) off) => (isTripI legs off ch (q : Int) ty _ _ Q hok oq oy s1 s2).mono (fun e w' h => (⟨by rw [h.1, hrun], h.2⟩ : e = .returned (.bool true) ∧ Below Q.heap.size Q w')))
        have CS := Lib.hid (fun (Q : World) (s1 : SliceOf Q 6 LegD.vals (.slice (some ⟨b_, off_, none⟩) legs.length cl) legs) (s2 : SliceOf Q 1 vI (.slice Ao off.length co) off) => (startsAtI legs off ch (q : Int) ty _ _ Q hok oq oy s1 s2).mono (fun e w' h => (⟨by rw [h.1, hrun, hS1]; rfl, h.2⟩ : e = .returned (.int .i64 S1) ∧ Below Q.heap.size Q w')))
        have fe : (f.toList != f.toList) = false := by simp
        have d1 : decide (S1 < a) = false := decide_eq_false (by omega)
        have d2 : decide (b ≤ S1) = false := decide_eq_false (by omega)
        have HS1 := Lib.hid hS1
        have i0' : (0 : Int) ≤ (i : Int) := by omega
        have i1' : (i : Int) < (L.length : Int) := by omega
        have lq0 : (0 : Int) ≤ (q : Int) := by omega
        have lq1 : (q : Int) < (legs.length : Int) := by omega
        clear hS1 hrun ha1 hb1 hy0 hy1 ha2 hb2 o1r
        obtain ⟨wt, rfl⟩ : ∃ wt : World, wt = wr := ⟨_, rfl⟩
        have BR := Lib.hid (Below.refl wt.heap.size wt).drew
        rcases i with _ | k
        · skip
          go_wp2_with fail
          refine wp_region_held_drew (S := fun Q => Q.cell? ⟨g, 0, none⟩ = some (.slice (some ⟨b_, off_, none⟩) legs.length cl) ∧ Q.cell? ⟨g, 1, none⟩ = some (.slice Ao off.length co) ∧ Q.cell? ⟨g, 2, none⟩ = some (.int .i64 ch) ∧ Q.cell? ⟨b_, off_ + q * 6, none⟩ = some (.string f) ∧ Q.cell? ⟨gr, 0 * 2, none⟩ = some (.int .i64 (q : Int)) ∧ Q.cell? ⟨gr, 0 * 2 + 1, none⟩ = some (.int .i64 ty) ∧ Below wt.heap.size wt Q) (by kernel_rfl) ?_ (fun hHeld => ?_)
          · (((try go_split_ands); refine ⟨?_, ?_, ?_, ?_, ?_, ?_, ?_⟩ <;> first | with_reducible assumption | with_reducible exact BR.out | (with_reducible apply cell_drewI; with_reducible assumption) | (with_reducible apply cell_keep <;> with_reducible assumption) | (with_reducible apply chain' <;> with_reducible assumption)))
          refine wpAnyH_take (i := 0) (oi := ?tko0) (v := ?tkv0) ?tki0 (by kernel_rfl) (by kernel_rfl) (by kernel_rfl) ?tkq0 ?tkz0 (by assumption) ?tkr0
          case tki0 => (simp only [List.getElem?_toArray, List.getElem?_cons_zero]; rfl)
          case tkq0 => exact fun _ _ _ h => h
          case tkz0 => (refine Or.inl ⟨by rfl, ?_⟩; intro w hSw; (try dsimp only at hSw); go_simp; try with_reducible rfl)
          try simp only [Act.put, List.setIfInBounds_toArray, List.set_cons_zero, List.set_cons_succ]
          refine wpAnyH_take (i := 1) (oi := ?tko1) (v := ?tkv1) ?tki1 (by kernel_rfl) (by kernel_rfl) (by kernel_rfl) ?tkq1 ?tkz1 (by assumption) ?tkr1
          case tki1 => (simp only [List.getElem?_toArray, List.getElem?_cons_succ, List.getElem?_cons_zero]; rfl)
          case tkq1 => exact fun _ _ _ h => h
          case tkz1 => (refine Or.inl ⟨by rfl, ?_⟩; intro w hSw; (try dsimp only at hSw); go_simp; try with_reducible rfl)
          try simp only [Act.put, List.setIfInBounds_toArray, List.set_cons_zero, List.set_cons_succ]
          refine wpAnyH_take (i := 2) (oi := ?tko2) (v := ?tkv2) ?tki2 (by kernel_rfl) (by kernel_rfl) (by kernel_rfl) ?tkq2 ?tkz2 (by assumption) ?tkr2
          case tki2 => (simp only [List.getElem?_toArray, List.getElem?_cons_succ, List.getElem?_cons_zero]; rfl)
          case tkq2 => exact fun _ _ _ h => h
          case tkz2 => (refine Or.inl ⟨by rfl, ?_⟩; intro w hSw; (try dsimp only at hSw); go_simp; try with_reducible rfl)
          try simp only [Act.put, List.setIfInBounds_toArray, List.set_cons_zero, List.set_cons_succ]
          refine wpAnyH_take (i := 3) (oi := ?tko3) (v := ?tkv3) ?tki3 (by kernel_rfl) (by kernel_rfl) (by kernel_rfl) ?tkq3 ?tkz3 (by assumption) ?tkr3
          case tki3 => (simp only [List.getElem?_toArray, List.getElem?_cons_succ, List.getElem?_cons_zero]; rfl)
          case tkq3 => exact fun _ _ _ h => h
          case tkz3 => (refine Or.inl ⟨by rfl, ?_⟩; intro w hSw; (try dsimp only at hSw); go_simp; try with_reducible rfl)
          try simp only [Act.put, List.setIfInBounds_toArray, List.set_cons_zero, List.set_cons_succ]
          refine wpAnyH_take (i := 4) (oi := ?tko4) (v := ?tkv4) ?tki4 (by kernel_rfl) (by kernel_rfl) (by kernel_rfl) ?tkq4 ?tkz4 (by assumption) ?tkr4
          case tki4 => (simp only [List.getElem?_toArray, List.getElem?_cons_succ, List.getElem?_cons_zero]; rfl)
          case tkq4 => exact fun _ _ _ h => h
          case tkz4 => (refine Or.inl ⟨by rfl, ?_⟩; intro w hSw; (try dsimp only at hSw); go_simp; try with_reducible rfl)
          try simp only [Act.put, List.setIfInBounds_toArray, List.set_cons_zero, List.set_cons_succ]
          refine wpAnyH_ready (rs := [5]) (by kernel_rfl) (by simp) ?_
          refine AllReadyH.cons rfl (fun K hK => ?_) AllReadyH.nil
          go_simp
          (go_at_call 17; (try go_split_ands); (with_reducible refine (CT.out _ (SL.keep (by assumption) (Nat.le_refl _)) (SO.keep (by assumption) (Nat.le_refl _))).mono ?_); rintro e w11 ⟨rfl, b11⟩)
          (try go_wp2_with fail)
          refine hK.out _ _ ?_ (fun hHeld => ?_)
          · (try dsimp only); (((try go_split_ands); refine ⟨?_, ?_, ?_, ?_, ?_, ?_, ?_⟩ <;> first | with_reducible assumption | with_reducible exact BR.out | (with_reducible apply cell_drewI; with_reducible assumption) | (with_reducible apply cell_keep <;> with_reducible assumption) | (with_reducible apply chain' <;> with_reducible assumption)))
          clear hK K
          try simp only [Act.put, List.setIfInBounds_toArray, List.set_cons_zero, List.set_cons_succ]
          refine wpAnyH_take (i := 6) (oi := ?tko6) (v := ?tkv6) ?tki6 (by kernel_rfl) (by kernel_rfl) (by kernel_rfl) ?tkq6 ?tkz6 (by assumption) ?tkr6
          case tki6 => (simp only [List.getElem?_toArray, List.getElem?_cons_succ, List.getElem?_cons_zero]; rfl)
          case tkq6 => exact fun _ _ _ h => h
          case tkz6 => (refine Or.inl ⟨by rfl, ?_⟩; intro w hSw; (try dsimp only at hSw); go_simp; try with_reducible rfl)
          try simp only [Act.put, List.setIfInBounds_toArray, List.set_cons_zero, List.set_cons_succ]
          refine wpAnyH_take (i := 7) (oi := ?tko7) (v := ?tkv7) ?tki7 (by kernel_rfl) (by kernel_rfl) (by kernel_rfl) ?tkq7 ?tkz7 (by assumption) ?tkr7
          case tki7 => (simp only [List.getElem?_toArray, List.getElem?_cons_succ, List.getElem?_cons_zero]; rfl)
          case tkq7 => exact fun _ _ _ h => h
          case tkz7 => (refine Or.inl ⟨by rfl, ?_⟩; intro w hSw; (try dsimp only at hSw); go_simp; try with_reducible rfl)
          try simp only [Act.put, List.setIfInBounds_toArray, List.set_cons_zero, List.set_cons_succ]
          refine wpAnyH_take (i := 8) (oi := ?tko8) (v := ?tkv8) ?tki8 (by kernel_rfl) (by kernel_rfl) (by kernel_rfl) ?tkq8 ?tkz8 (by assumption) ?tkr8
          case tki8 => (simp only [List.getElem?_toArray, List.getElem?_cons_succ, List.getElem?_cons_zero]; rfl)
          case tkq8 => exact fun _ _ _ h => h
          case tkz8 => (refine Or.inl ⟨by rfl, ?_⟩; intro w hSw; (try dsimp only at hSw); go_simp; try with_reducible rfl)
          try simp only [Act.put, List.setIfInBounds_toArray, List.set_cons_zero, List.set_cons_succ]
          refine wpAnyH_take (i := 9) (oi := ?tko9) (v := ?tkv9) ?tki9 (by kernel_rfl) (by kernel_rfl) (by kernel_rfl) ?tkq9 ?tkz9 (by assumption) ?tkr9
          case tki9 => (simp only [List.getElem?_toArray, List.getElem?_cons_succ, List.getElem?_cons_zero]; rfl)
          case tkq9 => exact fun _ _ _ h => h
          case tkz9 => (refine Or.inl ⟨by rfl, ?_⟩; intro w hSw; (try dsimp only at hSw); go_simp; try with_reducible rfl)
          try simp only [Act.put, List.setIfInBounds_toArray, List.set_cons_zero, List.set_cons_succ]
          refine wpAnyH_take (i := 10) (oi := ?tko10) (v := ?tkv10) ?tki10 (by kernel_rfl) (by kernel_rfl) (by kernel_rfl) ?tkq10 ?tkz10 (by assumption) ?tkr10
          case tki10 => (simp only [List.getElem?_toArray, List.getElem?_cons_succ, List.getElem?_cons_zero]; rfl)
          case tkq10 => exact fun _ _ _ h => h
          case tkz10 => (refine Or.inl ⟨by rfl, ?_⟩; intro w hSw; (try dsimp only at hSw); go_simp; try with_reducible rfl)
          try simp only [Act.put, List.setIfInBounds_toArray, List.set_cons_zero, List.set_cons_succ]
          refine wpAnyH_take (i := 11) (oi := ?tko11) (v := ?tkv11) ?tki11 (by kernel_rfl) (by kernel_rfl) (by kernel_rfl) ?tkq11 ?tkz11 (by assumption) ?tkr11
          case tki11 => (simp only [List.getElem?_toArray, List.getElem?_cons_succ, List.getElem?_cons_zero]; rfl)
          case tkq11 => exact fun _ _ _ h => h
          case tkz11 => (refine Or.inl ⟨by rfl, ?_⟩; intro w hSw; (try dsimp only at hSw); go_simp; try with_reducible rfl)
          try simp only [Act.put, List.setIfInBounds_toArray, List.set_cons_zero, List.set_cons_succ]
          refine wpAnyH_take (i := 12) (oi := ?tko12) (v := ?tkv12) ?tki12 (by kernel_rfl) (by kernel_rfl) (by kernel_rfl) ?tkq12 ?tkz12 (by assumption) ?tkr12
          case tki12 => (simp only [List.getElem?_toArray, List.getElem?_cons_succ, List.getElem?_cons_zero]; rfl)
          case tkq12 => exact fun _ _ _ h => h
          case tkz12 => (refine Or.inl ⟨by rfl, ?_⟩; intro w hSw; (try dsimp only at hSw); go_simp; try with_reducible rfl)
          try simp only [Act.put, List.setIfInBounds_toArray, List.set_cons_zero, List.set_cons_succ]
          refine wpAnyH_take (i := 13) (oi := ?tko13) (v := ?tkv13) ?tki13 (by kernel_rfl) (by kernel_rfl) (by kernel_rfl) ?tkq13 ?tkz13 (by assumption) ?tkr13
          case tki13 => (simp only [List.getElem?_toArray, List.getElem?_cons_succ, List.getElem?_cons_zero]; rfl)
          case tkq13 => exact fun _ _ _ h => h
          case tkz13 => (refine Or.inl ⟨by rfl, ?_⟩; intro w hSw; (try dsimp only at hSw); go_simp; try with_reducible rfl)
          try simp only [Act.put, List.setIfInBounds_toArray, List.set_cons_zero, List.set_cons_succ]
          refine wpAnyH_take (i := 14) (oi := ?tko14) (v := ?tkv14) ?tki14 (by kernel_rfl) (by kernel_rfl) (by kernel_rfl) ?tkq14 ?tkz14 (by assumption) ?tkr14
          case tki14 => (simp only [List.getElem?_toArray, List.getElem?_cons_succ, List.getElem?_cons_zero]; rfl)
          case tkq14 => exact fun _ _ _ h => h
          case tkz14 => (refine Or.inl ⟨by rfl, ?_⟩; intro w hSw; (try dsimp only at hSw); go_simp; try with_reducible rfl)
          try simp only [Act.put, List.setIfInBounds_toArray, List.set_cons_zero, List.set_cons_succ]
          refine wpAnyH_take (i := 15) (oi := ?tko15) (v := ?tkv15) ?tki15 (by kernel_rfl) (by kernel_rfl) (by kernel_rfl) ?tkq15 ?tkz15 (by assumption) ?tkr15
          case tki15 => (simp only [List.getElem?_toArray, List.getElem?_cons_succ, List.getElem?_cons_zero]; rfl)
          case tkq15 => exact fun _ _ _ h => h
          case tkz15 => (refine Or.inl ⟨by rfl, ?_⟩; intro w hSw; (try dsimp only at hSw); go_simp; try with_reducible rfl)
          try simp only [Act.put, List.setIfInBounds_toArray, List.set_cons_zero, List.set_cons_succ]
          refine wpAnyH_take (i := 16) (oi := ?tko16) (v := ?tkv16) ?tki16 (by kernel_rfl) (by kernel_rfl) (by kernel_rfl) ?tkq16 ?tkz16 (by assumption) ?tkr16
          case tki16 => (simp only [List.getElem?_toArray, List.getElem?_cons_succ, List.getElem?_cons_zero]; rfl)
          case tkq16 => exact fun _ _ _ h => h
          case tkz16 => (refine Or.inl ⟨by rfl, ?_⟩; intro w hSw; (try dsimp only at hSw); go_simp; try with_reducible rfl)
          try simp only [Act.put, List.setIfInBounds_toArray, List.set_cons_zero, List.set_cons_succ]
          refine wpAnyH_take (i := 17) (oi := ?tko17) (v := ?tkv17) ?tki17 (by kernel_rfl) (by kernel_rfl) (by kernel_rfl) ?tkq17 ?tkz17 (by assumption) ?tkr17
          case tki17 => (simp only [List.getElem?_toArray, List.getElem?_cons_succ, List.getElem?_cons_zero]; rfl)
          case tkq17 => exact fun _ _ _ h => h
          case tkz17 => (refine Or.inl ⟨by rfl, ?_⟩; intro w hSw; (try dsimp only at hSw); go_simp; try with_reducible rfl)
          try simp only [Act.put, List.setIfInBounds_toArray, List.set_cons_zero, List.set_cons_succ]
          refine wpAnyH_take (i := 18) (oi := ?tko18) (v := ?tkv18) ?tki18 (by kernel_rfl) (by kernel_rfl) (by kernel_rfl) ?tkq18 ?tkz18 (by assumption) ?tkr18
          case tki18 => (simp only [List.getElem?_toArray, List.getElem?_cons_succ, List.getElem?_cons_zero]; rfl)
          case tkq18 => exact fun _ _ _ h => h
          case tkz18 => (refine Or.inl ⟨by rfl, ?_⟩; intro w hSw; (try dsimp only at hSw); go_simp; try with_reducible rfl)
          try simp only [Act.put, List.setIfInBounds_toArray, List.set_cons_zero, List.set_cons_succ]
          refine wpAnyH_take (i := 19) (oi := ?tko19) (v := ?tkv19) ?tki19 (by kernel_rfl) (by kernel_rfl) (by kernel_rfl) ?tkq19 ?tkz19 (by assumption) ?tkr19
          case tki19 => (simp only [List.getElem?_toArray, List.getElem?_cons_succ, List.getElem?_cons_zero]; rfl)
          case tkq19 => exact fun _ _ _ h => h
          case tkz19 => (refine Or.inl ⟨by rfl, ?_⟩; intro w hSw; (try dsimp only at hSw); go_simp; try with_reducible rfl)
          try simp only [Act.put, List.setIfInBounds_toArray, List.set_cons_zero, List.set_cons_succ]
          refine wpAnyH_take (i := 20) (oi := ?tko20) (v := ?tkv20) ?tki20 (by kernel_rfl) (by kernel_rfl) (by kernel_rfl) ?tkq20 ?tkz20 (by assumption) ?tkr20
          case tki20 => (simp only [List.getElem?_toArray, List.getElem?_cons_succ, List.getElem?_cons_zero]; rfl)
          case tkq20 => exact fun _ _ _ h => h
          case tkz20 => (refine Or.inl ⟨by rfl, ?_⟩; intro w hSw; (try dsimp only at hSw); go_simp; try with_reducible rfl)
          try simp only [Act.put, List.setIfInBounds_toArray, List.set_cons_zero, List.set_cons_succ]
          refine wpAnyH_take (i := 21) (oi := ?tko21) (v := ?tkv21) ?tki21 (by kernel_rfl) (by kernel_rfl) (by kernel_rfl) ?tkq21 ?tkz21 (by assumption) ?tkr21
          case tki21 => (simp only [List.getElem?_toArray, List.getElem?_cons_succ, List.getElem?_cons_zero]; rfl)
          case tkq21 => exact fun _ _ _ h => h
          case tkz21 => (refine Or.inl ⟨by rfl, ?_⟩; intro w hSw; (try dsimp only at hSw); go_simp; try with_reducible rfl)
          try simp only [Act.put, List.setIfInBounds_toArray, List.set_cons_zero, List.set_cons_succ]
          refine wpAnyH_take (i := 22) (oi := ?tko22) (v := ?tkv22) ?tki22 (by kernel_rfl) (by kernel_rfl) (by kernel_rfl) ?tkq22 ?tkz22 (by assumption) ?tkr22
          case tki22 => (simp only [List.getElem?_toArray, List.getElem?_cons_succ, List.getElem?_cons_zero]; rfl)
          case tkq22 => exact fun _ _ _ h => h
          case tkz22 => (refine Or.inl ⟨by rfl, ?_⟩; intro w hSw; (try dsimp only at hSw); go_simp; try with_reducible rfl)
          try simp only [Act.put, List.setIfInBounds_toArray, List.set_cons_zero, List.set_cons_succ]
          refine wpAnyH_take (i := 23) (oi := ?tko23) (v := ?tkv23) ?tki23 (by kernel_rfl) (by kernel_rfl) (by kernel_rfl) ?tkq23 ?tkz23 (by assumption) ?tkr23
          case tki23 => (simp only [List.getElem?_toArray, List.getElem?_cons_succ, List.getElem?_cons_zero]; rfl)
          case tkq23 => exact fun _ _ _ h => h
          case tkz23 => (refine Or.inl ⟨by rfl, ?_⟩; intro w hSw; (try dsimp only at hSw); go_simp; try with_reducible rfl)
          try simp only [Act.put, List.setIfInBounds_toArray, List.set_cons_zero, List.set_cons_succ]
          refine wpAnyH_take (i := 24) (oi := ?tko24) (v := ?tkv24) ?tki24 (by kernel_rfl) (by kernel_rfl) (by kernel_rfl) ?tkq24 ?tkz24 (by assumption) ?tkr24
          case tki24 => (simp only [List.getElem?_toArray, List.getElem?_cons_succ, List.getElem?_cons_zero]; rfl)
          case tkq24 => exact fun _ _ _ h => h
          case tkz24 => (refine Or.inl ⟨by rfl, ?_⟩; intro w hSw; (try dsimp only at hSw); go_simp; try with_reducible rfl)
          try simp only [Act.put, List.setIfInBounds_toArray, List.set_cons_zero, List.set_cons_succ]
          refine wpAnyH_take (i := 25) (oi := ?tko25) (v := ?tkv25) ?tki25 (by kernel_rfl) (by kernel_rfl) (by kernel_rfl) ?tkq25 ?tkz25 (by assumption) ?tkr25
          case tki25 => (simp only [List.getElem?_toArray, List.getElem?_cons_succ, List.getElem?_cons_zero]; rfl)
          case tkq25 => exact fun _ _ _ h => h
          case tkz25 => (refine Or.inl ⟨by rfl, ?_⟩; intro w hSw; (try dsimp only at hSw); go_simp; try with_reducible rfl)
          try simp only [Act.put, List.setIfInBounds_toArray, List.set_cons_zero, List.set_cons_succ]
          refine wpAnyH_take (i := 26) (oi := ?tko26) (v := ?tkv26) ?tki26 (by kernel_rfl) (by kernel_rfl) (by kernel_rfl) ?tkq26 ?tkz26 (by assumption) ?tkr26
          case tki26 => (simp only [List.getElem?_toArray, List.getElem?_cons_succ, List.getElem?_cons_zero]; rfl)
          case tkq26 => exact fun _ _ _ h => h
          case tkz26 => (refine Or.inl ⟨by rfl, ?_⟩; intro w hSw; (try dsimp only at hSw); go_simp; try with_reducible rfl)
          try simp only [Act.put, List.setIfInBounds_toArray, List.set_cons_zero, List.set_cons_succ]
          refine wpAnyH_take (i := 28) (oi := ?tko28) (v := ?tkv28) ?tki28 (by kernel_rfl) (by kernel_rfl) (by kernel_rfl) ?tkq28 ?tkz28 (by assumption) ?tkr28
          case tki28 => (simp only [List.getElem?_toArray, List.getElem?_cons_succ, List.getElem?_cons_zero]; rfl)
          case tkq28 => exact fun _ _ _ h => h
          case tkz28 => (refine Or.inl ⟨by rfl, ?_⟩; intro w hSw; (try dsimp only at hSw); go_simp; try with_reducible rfl)
          try simp only [Act.put, List.setIfInBounds_toArray, List.set_cons_zero, List.set_cons_succ]
          refine wpAnyH_ready (rs := [27]) (by kernel_rfl) (by simp) ?_
          refine AllReadyH.cons rfl (fun K hK => ?_) AllReadyH.nil
          go_simp
          (go_at_call 18; (try go_split_ands); (with_reducible refine (CS.out _ (SL.keep (by assumption) (Nat.le_refl _)) (SO.keep (by assumption) (Nat.le_refl _))).mono ?_); rintro e w12 ⟨rfl, b12⟩)
          (try go_wp2_with fail)
          refine hK.out _ _ ?_ (fun hHeld => ?_)
          · (try dsimp only); (((try go_split_ands); refine ⟨?_, ?_, ?_, ?_, ?_, ?_, ?_⟩ <;> first | with_reducible assumption | with_reducible exact BR.out | (with_reducible apply cell_drewI; with_reducible assumption) | (with_reducible apply cell_keep <;> with_reducible assumption) | (with_reducible apply chain' <;> with_reducible assumption)))
          clear hK K
          try simp only [Act.put, List.setIfInBounds_toArray, List.set_cons_zero, List.set_cons_succ]
          refine wpAnyH_take (i := 29) (oi := ?tko29) (v := ?tkv29) ?tki29 (by kernel_rfl) (by kernel_rfl) (by kernel_rfl) ?tkq29 ?tkz29 (by assumption) ?tkr29
          case tki29 => (simp only [List.getElem?_toArray, List.getElem?_cons_succ, List.getElem?_cons_zero]; rfl)
          case tkq29 => exact fun _ _ _ h => h
          case tkz29 => (refine Or.inl ⟨by rfl, ?_⟩; intro w hSw; (try dsimp only at hSw); go_simp; try with_reducible rfl)
          try simp only [Act.put, List.setIfInBounds_toArray, List.set_cons_zero, List.set_cons_succ]
          refine wpAnyH_take (i := 30) (oi := ?tko30) (v := ?tkv30) ?tki30 (by kernel_rfl) (by kernel_rfl) (by kernel_rfl) ?tkq30 ?tkz30 (by assumption) ?tkr30
          case tki30 => (simp only [List.getElem?_toArray, List.getElem?_cons_succ, List.getElem?_cons_zero]; rfl)
          case tkq30 => exact fun _ _ _ h => h
          case tkz30 => (refine Or.inl ⟨by rfl, ?_⟩; intro w hSw; (try dsimp only at hSw); go_simp; try with_reducible rfl)
          try simp only [Act.put, List.setIfInBounds_toArray, List.set_cons_zero, List.set_cons_succ]
          refine wpAnyH_take (i := 31) (oi := ?tko31) (v := ?tkv31) ?tki31 (by kernel_rfl) (by kernel_rfl) (by kernel_rfl) ?tkq31 ?tkz31 (by assumption) ?tkr31
          case tki31 => (simp only [List.getElem?_toArray, List.getElem?_cons_succ, List.getElem?_cons_zero]; rfl)
          case tkq31 => exact fun _ _ _ h => h
          case tkz31 => (refine Or.inl ⟨by rfl, ?_⟩; intro w hSw; (try dsimp only at hSw); go_simp; try with_reducible rfl)
          try simp only [Act.put, List.setIfInBounds_toArray, List.set_cons_zero, List.set_cons_succ]
          refine wpAnyH_take (i := 32) (oi := ?tko32) (v := ?tkv32) ?tki32 (by kernel_rfl) (by kernel_rfl) (by kernel_rfl) ?tkq32 ?tkz32 (by assumption) ?tkr32
          case tki32 => (simp only [List.getElem?_toArray, List.getElem?_cons_succ, List.getElem?_cons_zero]; rfl)
          case tkq32 => exact fun _ _ _ h => h
          case tkz32 => (refine Or.inl ⟨by rfl, ?_⟩; intro w hSw; (try dsimp only at hSw); go_simp; try with_reducible rfl)
          try simp only [Act.put, List.setIfInBounds_toArray, List.set_cons_zero, List.set_cons_succ]
          refine wpAnyH_take (i := 33) (oi := ?tko33) (v := ?tkv33) ?tki33 (by kernel_rfl) (by kernel_rfl) (by kernel_rfl) ?tkq33 ?tkz33 (by assumption) ?tkr33
          case tki33 => (simp only [List.getElem?_toArray, List.getElem?_cons_succ, List.getElem?_cons_zero]; rfl)
          case tkq33 => exact fun _ _ _ h => h
          case tkz33 => (refine Or.inl ⟨by rfl, ?_⟩; intro w hSw; (try dsimp only at hSw); go_simp; try with_reducible rfl)
          try simp only [Act.put, List.setIfInBounds_toArray, List.set_cons_zero, List.set_cons_succ]
          refine wpAnyH_take (i := 34) (oi := ?tko34) (v := ?tkv34) ?tki34 (by kernel_rfl) (by kernel_rfl) (by kernel_rfl) ?tkq34 ?tkz34 (by assumption) ?tkr34
          case tki34 => (simp only [List.getElem?_toArray, List.getElem?_cons_succ, List.getElem?_cons_zero]; rfl)
          case tkq34 => exact fun _ _ _ h => h
          case tkz34 => (refine Or.inl ⟨by rfl, ?_⟩; intro w hSw; (try dsimp only at hSw); go_simp; try with_reducible rfl)
          try simp only [Act.put, List.setIfInBounds_toArray, List.set_cons_zero, List.set_cons_succ]
          refine wpAnyH_take (i := 35) (oi := ?tko35) (v := ?tkv35) ?tki35 (by kernel_rfl) (by kernel_rfl) (by kernel_rfl) ?tkq35 ?tkz35 (by assumption) ?tkr35
          case tki35 => (simp only [List.getElem?_toArray, List.getElem?_cons_succ, List.getElem?_cons_zero]; rfl)
          case tkq35 => exact fun _ _ _ h => h
          case tkz35 => (refine Or.inl ⟨by rfl, ?_⟩; intro w hSw; (try dsimp only at hSw); go_simp; try with_reducible rfl)
          try simp only [Act.put, List.setIfInBounds_toArray, List.set_cons_zero, List.set_cons_succ]
          refine wpAnyH_take (i := 36) (oi := ?tko36) (v := ?tkv36) ?tki36 (by kernel_rfl) (by kernel_rfl) (by kernel_rfl) ?tkq36 ?tkz36 (by assumption) ?tkr36
          case tki36 => (simp only [List.getElem?_toArray, List.getElem?_cons_succ, List.getElem?_cons_zero]; rfl)
          case tkq36 => exact fun _ _ _ h => h
          case tkz36 => (refine Or.inl ⟨by rfl, ?_⟩; intro w hSw; (try dsimp only at hSw); go_simp; try with_reducible rfl)
          try simp only [Act.put, List.setIfInBounds_toArray, List.set_cons_zero, List.set_cons_succ]
          refine wpAnyH_take (i := 38) (oi := ?tko38) (v := ?tkv38) ?tki38 (by kernel_rfl) (by kernel_rfl) (by kernel_rfl) ?tkq38 ?tkz38 (by assumption) ?tkr38
          case tki38 => (simp only [List.getElem?_toArray, List.getElem?_cons_succ, List.getElem?_cons_zero]; rfl)
          case tkq38 => exact fun _ _ _ h => h
          case tkz38 => (refine Or.inl ⟨by rfl, ?_⟩; intro w hSw; (try dsimp only at hSw); go_simp; try with_reducible rfl)
          try simp only [Act.put, List.setIfInBounds_toArray, List.set_cons_zero, List.set_cons_succ]
          refine wpAnyH_ready (rs := [37]) (by kernel_rfl) (by simp) ?_
          refine AllReadyH.cons rfl (fun K hK => ?_) AllReadyH.nil
          go_simp
          (go_at_call 18; (try go_split_ands); (with_reducible refine (CS.out _ (SL.keep (by assumption) (Nat.le_refl _)) (SO.keep (by assumption) (Nat.le_refl _))).mono ?_); rintro e w12 ⟨rfl, b12⟩)
          (try go_wp2_with fail)
          refine hK.out _ _ ?_ (fun hHeld => ?_)
          · (try dsimp only); (((try go_split_ands); refine ⟨?_, ?_, ?_, ?_, ?_, ?_, ?_⟩ <;> first | with_reducible assumption | with_reducible exact BR.out | (with_reducible apply cell_drewI; with_reducible assumption) | (with_reducible apply cell_keep <;> with_reducible assumption) | (with_reducible apply chain' <;> with_reducible assumption)))
          clear hK K
          try simp only [Act.put, List.setIfInBounds_toArray, List.set_cons_zero, List.set_cons_succ]
          refine wpAnyH_take (i := 39) (oi := ?tko39) (v := ?tkv39) ?tki39 (by kernel_rfl) (by kernel_rfl) (by kernel_rfl) ?tkq39 ?tkz39 (by assumption) ?tkr39
          case tki39 => (simp only [List.getElem?_toArray, List.getElem?_cons_succ, List.getElem?_cons_zero]; rfl)
          case tkq39 => exact fun _ _ _ h => h
          case tkz39 => (refine Or.inl ⟨by rfl, ?_⟩; intro w hSw; (try dsimp only at hSw); go_simp; try with_reducible rfl)
          try simp only [Act.put, List.setIfInBounds_toArray, List.set_cons_zero, List.set_cons_succ]
          refine wpAnyH_take (i := 40) (oi := ?tko40) (v := ?tkv40) ?tki40 (by kernel_rfl) (by kernel_rfl) (by kernel_rfl) ?tkq40 ?tkz40 (by assumption) ?tkr40
          case tki40 => (simp only [List.getElem?_toArray, List.getElem?_cons_succ, List.getElem?_cons_zero]; rfl)
          case tkq40 => exact fun _ _ _ h => h
          case tkz40 => (refine Or.inl ⟨by rfl, ?_⟩; intro w hSw; (try dsimp only at hSw); go_simp; try with_reducible rfl)
          try simp only [Act.put, List.setIfInBounds_toArray, List.set_cons_zero, List.set_cons_succ]
          refine wpAnyH_take (i := 41) (oi := ?tko41) (v := ?tkv41) ?tki41 (by kernel_rfl) (by kernel_rfl) (by kernel_rfl) ?tkq41 ?tkz41 (by assumption) ?tkr41
          case tki41 => (simp only [List.getElem?_toArray, List.getElem?_cons_succ, List.getElem?_cons_zero]; rfl)
          case tkq41 => exact fun _ _ _ h => h
          case tkz41 => (refine Or.inl ⟨by rfl, ?_⟩; intro w hSw; (try dsimp only at hSw); go_simp; try with_reducible rfl)
          try simp only [Act.put, List.setIfInBounds_toArray, List.set_cons_zero, List.set_cons_succ]
          refine wpAnyH_take (i := 42) (oi := ?tko42) (v := ?tkv42) ?tki42 (by kernel_rfl) (by kernel_rfl) (by kernel_rfl) ?tkq42 ?tkz42 (by assumption) ?tkr42
          case tki42 => (simp only [List.getElem?_toArray, List.getElem?_cons_succ, List.getElem?_cons_zero]; rfl)
          case tkq42 => exact fun _ _ _ h => h
          case tkz42 => (refine Or.inl ⟨by rfl, ?_⟩; intro w hSw; (try dsimp only at hSw); go_simp; try with_reducible rfl)
          try simp only [Act.put, List.setIfInBounds_toArray, List.set_cons_zero, List.set_cons_succ]
          refine wpAnyH_take (i := 43) (oi := ?tko43) (v := ?tkv43) ?tki43 (by kernel_rfl) (by kernel_rfl) (by kernel_rfl) ?tkq43 ?tkz43 (by assumption) ?tkr43
          case tki43 => (simp only [List.getElem?_toArray, List.getElem?_cons_succ, List.getElem?_cons_zero]; rfl)
          case tkq43 => exact fun _ _ _ h => h
          case tkz43 => (refine Or.inl ⟨by rfl, ?_⟩; intro w hSw; (try dsimp only at hSw); go_simp; try with_reducible rfl)
          try simp only [Act.put, List.setIfInBounds_toArray, List.set_cons_zero, List.set_cons_succ]
          refine wpAnyH_take (i := 44) (oi := ?tko44) (v := ?tkv44) ?tki44 (by kernel_rfl) (by kernel_rfl) (by kernel_rfl) ?tkq44 ?tkz44 (by assumption) ?tkr44
          case tki44 => (simp only [List.getElem?_toArray, List.getElem?_cons_succ, List.getElem?_cons_zero]; rfl)
          case tkq44 => exact fun _ _ _ h => h
          case tkz44 => (refine Or.inl ⟨by rfl, ?_⟩; intro w hSw; (try dsimp only at hSw); go_simp; try with_reducible rfl)
          try simp only [Act.put, List.setIfInBounds_toArray, List.set_cons_zero, List.set_cons_succ]
          refine wpAnyH_take (i := 45) (oi := ?tko45) (v := Go.undef) ?tki45 (by kernel_rfl) (by kernel_rfl) (by kernel_rfl) ?tkq45 ?tkz45 (by assumption) ?tkr45
          case tki45 => (simp only [List.getElem?_toArray, List.getElem?_cons_succ, List.getElem?_cons_zero]; rfl)
          case tkq45 => exact fun _ _ _ h => h
          case tkz45 => exact Or.inr ⟨by rfl, rfl⟩
          try simp only [Act.put, List.setIfInBounds_toArray, List.set_cons_zero, List.set_cons_succ]
          refine wpAnyH_take (i := 46) (oi := ?tko46) (v := Go.undef) ?tki46 (by kernel_rfl) (by kernel_rfl) (by kernel_rfl) ?tkq46 ?tkz46 (by assumption) ?tkr46
          case tki46 => (simp only [List.getElem?_toArray, List.getElem?_cons_succ, List.getElem?_cons_zero]; rfl)
          case tkq46 => exact fun _ _ _ h => h
          case tkz46 => exact Or.inr ⟨by rfl, rfl⟩
          try simp only [Act.put, List.setIfInBounds_toArray, List.set_cons_zero, List.set_cons_succ]
          refine wpAnyH_take (i := 47) (oi := ?tko47) (v := Go.undef) ?tki47 (by kernel_rfl) (by kernel_rfl) (by kernel_rfl) ?tkq47 ?tkz47 (by assumption) ?tkr47
          case tki47 => (simp only [List.getElem?_toArray, List.getElem?_cons_succ, List.getElem?_cons_zero]; rfl)
          case tkq47 => exact fun _ _ _ h => h
          case tkz47 => exact Or.inr ⟨by rfl, rfl⟩
          try simp only [Act.put, List.setIfInBounds_toArray, List.set_cons_zero, List.set_cons_succ]
          refine wpAnyH_take (i := 48) (oi := ?tko48) (v := Go.undef) ?tki48 (by kernel_rfl) (by kernel_rfl) (by kernel_rfl) ?tkq48 ?tkz48 (by assumption) ?tkr48
          case tki48 => (simp only [List.getElem?_toArray, List.getElem?_cons_succ, List.getElem?_cons_zero]; rfl)
          case tkq48 => exact fun _ _ _ h => h
          case tkz48 => exact Or.inr ⟨by rfl, rfl⟩
          try simp only [Act.put, List.setIfInBounds_toArray, List.set_cons_zero, List.set_cons_succ]
          refine wpAnyH_take (i := 49) (oi := ?tko49) (v := Go.undef) ?tki49 (by kernel_rfl) (by kernel_rfl) (by kernel_rfl) ?tkq49 ?tkz49 (by assumption) ?tkr49
          case tki49 => (simp only [List.getElem?_toArray, List.getElem?_cons_succ, List.getElem?_cons_zero]; rfl)
          case tkq49 => exact fun _ _ _ h => h
          case tkz49 => exact Or.inr ⟨by rfl, rfl⟩
          try simp only [Act.put, List.setIfInBounds_toArray, List.set_cons_zero, List.set_cons_succ]
          refine wpAnyH_take (i := 50) (oi := ?tko50) (v := Go.undef) ?tki50 (by kernel_rfl) (by kernel_rfl) (by kernel_rfl) ?tkq50 ?tkz50 (by assumption) ?tkr50
          case tki50 => (simp only [List.getElem?_toArray, List.getElem?_cons_succ, List.getElem?_cons_zero]; rfl)
          case tkq50 => exact fun _ _ _ h => h
          case tkz50 => exact Or.inr ⟨by rfl, rfl⟩
          try simp only [Act.put, List.setIfInBounds_toArray, List.set_cons_zero, List.set_cons_succ]
          refine wpAnyH_take (i := 51) (oi := ?tko51) (v := Go.undef) ?tki51 (by kernel_rfl) (by kernel_rfl) (by kernel_rfl) ?tkq51 ?tkz51 (by assumption) ?tkr51
          case tki51 => (simp only [List.getElem?_toArray, List.getElem?_cons_succ, List.getElem?_cons_zero]; rfl)
          case tkq51 => exact fun _ _ _ h => h
          case tkz51 => exact Or.inr ⟨by rfl, rfl⟩
          try simp only [Act.put, List.setIfInBounds_toArray, List.set_cons_zero, List.set_cons_succ]
          refine wpAnyH_take (i := 52) (oi := ?tko52) (v := Go.undef) ?tki52 (by kernel_rfl) (by kernel_rfl) (by kernel_rfl) ?tkq52 ?tkz52 (by assumption) ?tkr52
          case tki52 => (simp only [List.getElem?_toArray, List.getElem?_cons_succ, List.getElem?_cons_zero]; rfl)
          case tkq52 => exact fun _ _ _ h => h
          case tkz52 => exact Or.inr ⟨by rfl, rfl⟩
          try simp only [Act.put, List.setIfInBounds_toArray, List.set_cons_zero, List.set_cons_succ]
          refine wpAnyH_take (i := 53) (oi := ?tko53) (v := Go.undef) ?tki53 (by kernel_rfl) (by kernel_rfl) (by kernel_rfl) ?tkq53 ?tkz53 (by assumption) ?tkr53
          case tki53 => (simp only [List.getElem?_toArray, List.getElem?_cons_succ, List.getElem?_cons_zero]; rfl)
          case tkq53 => exact fun _ _ _ h => h
          case tkz53 => exact Or.inr ⟨by rfl, rfl⟩
          try simp only [Act.put, List.setIfInBounds_toArray, List.set_cons_zero, List.set_cons_succ]
          refine wpAnyH_take (i := 54) (oi := ?tko54) (v := Go.undef) ?tki54 (by kernel_rfl) (by kernel_rfl) (by kernel_rfl) ?tkq54 ?tkz54 (by assumption) ?tkr54
          case tki54 => (simp only [List.getElem?_toArray, List.getElem?_cons_succ, List.getElem?_cons_zero]; rfl)
          case tkq54 => exact fun _ _ _ h => h
          case tkz54 => exact Or.inr ⟨by rfl, rfl⟩
          try simp only [Act.put, List.setIfInBounds_toArray, List.set_cons_zero, List.set_cons_succ]
          refine wpAnyH_take (i := 55) (oi := ?tko55) (v := Go.undef) ?tki55 (by kernel_rfl) (by kernel_rfl) (by kernel_rfl) ?tkq55 ?tkz55 (by assumption) ?tkr55
          case tki55 => (simp only [List.getElem?_toArray, List.getElem?_cons_succ, List.getElem?_cons_zero]; rfl)
          case tkq55 => exact fun _ _ _ h => h
          case tkz55 => exact Or.inr ⟨by rfl, rfl⟩
          try simp only [Act.put, List.setIfInBounds_toArray, List.set_cons_zero, List.set_cons_succ]
          refine wpAnyH_take (i := 56) (oi := ?tko56) (v := Go.undef) ?tki56 (by kernel_rfl) (by kernel_rfl) (by kernel_rfl) ?tkq56 ?tkz56 (by assumption) ?tkr56
          case tki56 => (simp only [List.getElem?_toArray, List.getElem?_cons_succ, List.getElem?_cons_zero]; rfl)
          case tkq56 => exact fun _ _ _ h => h
          case tkz56 => exact Or.inr ⟨by rfl, rfl⟩
          try simp only [Act.put, List.setIfInBounds_toArray, List.set_cons_zero, List.set_cons_succ]
          refine wpAnyH_take (i := 57) (oi := ?tko57) (v := Go.undef) ?tki57 (by kernel_rfl) (by kernel_rfl) (by kernel_rfl) ?tkq57 ?tkz57 (by assumption) ?tkr57
          case tki57 => (simp only [List.getElem?_toArray, List.getElem?_cons_succ, List.getElem?_cons_zero]; rfl)
          case tkq57 => exact fun _ _ _ h => h
          case tkz57 => exact Or.inr ⟨by rfl, rfl⟩
          try simp only [Act.put, List.setIfInBounds_toArray, List.set_cons_zero, List.set_cons_succ]
          refine wpAnyH_take (i := 58) (oi := ?tko58) (v := Go.undef) ?tki58 (by kernel_rfl) (by kernel_rfl) (by kernel_rfl) ?tkq58 ?tkz58 (by assumption) ?tkr58
          case tki58 => (simp only [List.getElem?_toArray, List.getElem?_cons_succ, List.getElem?_cons_zero]; rfl)
          case tkq58 => exact fun _ _ _ h => h
          case tkz58 => exact Or.inr ⟨by rfl, rfl⟩
          try simp only [Act.put, List.setIfInBounds_toArray, List.set_cons_zero, List.set_cons_succ]
          refine wpAnyH_take (i := 59) (oi := ?tko59) (v := ?tkv59) ?tki59 (by kernel_rfl) (by kernel_rfl) (by kernel_rfl) ?tkq59 ?tkz59 (by assumption) ?tkr59
          case tki59 => (simp only [List.getElem?_toArray, List.getElem?_cons_succ, List.getElem?_cons_zero]; rfl)
          case tkq59 => exact fun _ _ _ h => h
          case tkz59 => (refine Or.inl ⟨by rfl, ?_⟩; intro w hSw; (try dsimp only at hSw); go_simp; try with_reducible rfl)
          try simp only [Act.put, List.setIfInBounds_toArray, List.set_cons_zero, List.set_cons_succ]
          refine wpAnyH_take (i := 60) (oi := ?tko60) (v := ?tkv60) ?tki60 (by kernel_rfl) (by kernel_rfl) (by kernel_rfl) ?tkq60 ?tkz60 (by assumption) ?tkr60
          case tki60 => (simp only [List.getElem?_toArray, List.getElem?_cons_succ, List.getElem?_cons_zero]; rfl)
          case tkq60 => exact fun _ _ _ h => h
          case tkz60 => (refine Or.inl ⟨by rfl, ?_⟩; intro w hSw; (try dsimp only at hSw); go_simp; try with_reducible rfl)
          try simp only [Act.put, List.setIfInBounds_toArray, List.set_cons_zero, List.set_cons_succ]
          refine wpAnyH_done (by kernel_rfl) ?_ _
          all_goals
            (try go_split_ands)
            skip
            go_wp2_with fail
            go_roundw
            case rel => exact ⟨0 + 1, by omega, by go_num, chain hB (by assumption)⟩
            case measure => simp [intOf]; omega
        · skip
          obtain ⟨s, hs⟩ : ∃ s, L[k]? = some s := ⟨_, List.getElem?_eq_getElem (by omega)⟩
          have hord := HO.out s k rfl hs
          obtain ⟨hnet', hrun', q', x', htl', hql', hx', hxp', ha1', hb1', hy0', hy1'⟩ := HH1.out.each hs
          obtain ⟨s0, s1⟩ := own_cells2 (o1.keep hB (Nat.le_refl _)) hs
          obtain ⟨sl', sy⟩ := s
          simp only at htl' hy0' hy1' s0 s1 hrun' hord
          subst htl'
          obtain ⟨S0, hS0⟩ : ∃ S0, S0 = startT legs (q' : Int) sy := ⟨_, rfl⟩
          have hord2 : S0 ≤ S1 := by rw [hS0, HS1.out]; exact hord
          have oq' : okI (q' : Int) := by have := netB_legs20 hnet; unfold okI; omega
          have oy' : okI sy := by unfold okI; omega
          have CS0 := Lib.hid (fun (Q : World) (s1 : SliceOf Q 6 LegD.vals (.slice (some ⟨b_, off_, none⟩) legs.length cl) legs) (s2 : SliceOf Q 1 vI (.slice Ao off.length co) off) => (startsAtI legs off ch (q' : Int) sy _ _ Q hok oq' oy' s1 s2).mono (fun e w' h => (⟨by rw [h.1, hrun', hS0]; rfl, h.2⟩ : e = .returned (.int .i64 S0) ∧ Below Q.heap.size Q w')))
          have d4 : decide (S1 < S0) = false := decide_eq_false (by omega)
          have wm : IntKind.i64.wrap (k : Int) = (k : Int) := IntWalk.i64_in _ (by omega)
          have mm0 : (0 : Int) ≤ (k : Int) := by omega
          have mm1 : (k : Int) < (L.length : Int) := by omega
          have mm2 : (0 : Int) < (k : Int) + 1 := by omega
          have mm3 : (k : Int) + 1 < (L.length : Int) := by omega
          have mm4 : (0 : Int) ≤ (k : Int) + 1 := by omega
          clear hS0 hrun' ha1' hb1' hy0' hy1' hord hord2 hx' hxp' HO i0' i1'
          go_wp2_with fail
          go_region_held3 (fun Q => Q.cell? ⟨g, 0, none⟩ = some (.slice (some ⟨b_, off_, none⟩) legs.length cl) ∧ Q.cell? ⟨g, 1, none⟩ = some (.slice Ao off.length co) ∧ Q.cell? ⟨g, 2, none⟩ = some (.int .i64 ch) ∧ Q.cell? ⟨b_, off_ + q * 6, none⟩ = some (.string f) ∧ Q.cell? ⟨gr, (k + 1) * 2, none⟩ = some (.int .i64 (q : Int)) ∧ Q.cell? ⟨gr, (k + 1) * 2 + 1, none⟩ = some (.int .i64 ty) ∧ Q.cell? ⟨gr, k * 2, none⟩ = some (.int .i64 (q' : Int)) ∧ Q.cell? ⟨gr, k * 2 + 1, none⟩ = some (.int .i64 sy) ∧ Below wt.heap.size wt Q)
            (((try go_split_ands); refine ⟨?_, ?_, ?_, ?_, ?_, ?_, ?_, ?_, ?_⟩ <;> first | with_reducible assumption | with_reducible exact BR.out | (with_reducible apply cell_drewI; with_reducible assumption) | (with_reducible apply cell_keep <;> with_reducible assumption) | (with_reducible apply chain' <;> with_reducible assumption)))
            ((first | (go_at_call 17; (try go_split_ands); (with_reducible refine (CT.out _ (SL.keep (by assumption) (Nat.le_refl _)) (SO.keep (by assumption) (Nat.le_refl _))).mono ?_); rintro e w11 ⟨rfl, b11⟩) | (go_at_call 18; (try go_split_ands); (with_reducible refine (CS.out _ (SL.keep (by assumption) (Nat.le_refl _)) (SO.keep (by assumption) (Nat.le_refl _))).mono ?_); rintro e w12 ⟨rfl, b12⟩) | (go_at_call 18; (try go_split_ands); (with_reducible refine (CS0.out _ (SL.keep (by assumption) (Nat.le_refl _)) (SO.keep (by assumption) (Nat.le_refl _))).mono ?_); rintro e w13 ⟨rfl, b13⟩)))
          all_goals
            (try go_split_ands)
            skip
            go_wp2_with fail
            go_roundw
            case rel => exact ⟨(k + 1) + 1, by omega, by go_num, chain hB (by assumption)⟩
            case measure => simp [intOf]; omega
      · obtain rfl : i = L.length := by omega
        go_wp2_with fail
        refine (trips_same L _ _ _ ((o1.keep hB (Nat.le_refl _)).slice Trip_len (by omega)) ((o10.keep hB (Nat.le_refl _)).slice Trip_len (by omega))).mono ?_
        rintro e w11 ⟨rfl, b11⟩
        go_wp2_with fail
        go_ret
        exact ⟨rfl, chain B10 (chain hB b11)⟩
end Go.Proofs.Ytdmeinfdldiegaa
