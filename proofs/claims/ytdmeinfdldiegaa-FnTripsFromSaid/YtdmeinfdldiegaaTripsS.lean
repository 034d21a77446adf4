/- What the reference's TripsFrom answers. No condition. -/
import Derived.Test.YtdmeinfdldiegaaTripsI
import Derived.Deep.RegionHeld3
namespace Go.Proofs.Ytdmeinfdldiegaa
open Go.RowKit Go.PlainAid Go.Shelf
set_option maxRecDepth 100000
set_option linter.unusedVariables false
theorem cell_newI2 (w : World) (a b : Value) (T : TypeId) : (w.alloc (.cells #[a, b] T)).cell? ⟨w.heap.size, 0, none⟩ = some a ∧ (w.alloc (.cells #[a, b] T)).cell? ⟨w.heap.size, 1, none⟩ = some b := by constructor <;> simp [go_sem]
theorem ins_xA2 {wr w1 : World} {o : Obj} {a b : Value} {T : TypeId} (gr : ((wr.alloc o).alloc (.cells #[a, b] T)).drew.grownBy w1 (Value.ownBlock (.slice (some ⟨wr.heap.size, 0, none⟩) 0 0))) : w1.cell? ⟨wr.heap.size + 1, 0, none⟩ = some a ∧ w1.cell? ⟨wr.heap.size + 1, 1, none⟩ = some b := by
  have h := cell_newI2 (wr.alloc o) a b T
  rw [show (wr.alloc o).heap.size = wr.heap.size + 1 by simp] at h
  exact ⟨grown_cellI gr (p := ⟨wr.heap.size + 1, 0, none⟩) (cell_drewI h.1) (by simp [Value.ownBlock]), grown_cellI gr (p := ⟨wr.heap.size + 1, 1, none⟩) (cell_drewI h.2) (by simp [Value.ownBlock])⟩
theorem ins_xB2 {wr w1 : World} {o : Obj} {a b : Value} {T : TypeId} (gr : ((wr.alloc (.cells #[a, b] T)).alloc o).drew.grownBy w1 (Value.ownBlock (.slice (some ⟨wr.heap.size + 1, 0, none⟩) 0 0))) : w1.cell? ⟨wr.heap.size, 0, none⟩ = some a ∧ w1.cell? ⟨wr.heap.size, 1, none⟩ = some b := by
  have h := cell_newI2 wr a b T
  exact ⟨grown_cellI gr (p := ⟨wr.heap.size, 0, none⟩) (cell_drewI (cell_allocI h.1 o)) (by simp [Value.ownBlock]), grown_cellI gr (p := ⟨wr.heap.size, 1, none⟩) (cell_drewI (cell_allocI h.2 o)) (by simp [Value.ownBlock])⟩
theorem news_two {w : World} {b : Nat} {t : TripD} (h : w.cell? ⟨b, 0, none⟩ = some (.int .i64 t.leg) ∧ w.cell? ⟨b, 1, none⟩ = some (.int .i64 t.day)) : ∀ j u, ([t].flatMap TripD.vals)[j]? = some u → w.cell? ((Addr.mk b 0 none).add j) = some u := by
  intro j u hu
  rw [List.flatMap_singleton] at hu
  match j, hu with
  | 0, hu => simp [TripD.vals] at hu; subst hu; simpa [Addr.add] using h.1
  | 1, hu => simp [TripD.vals] at hu; subst hu; simpa [Addr.add] using h.2
theorem own_cells2 {w : World} {base g n c : Nat} {L : List TripD} {k : Nat} {x : TripD} (hO : Own w base 45 2 TripD.vals (.slice (some ⟨g, 0, none⟩) n c) L) (hx : L[k]? = some x) : w.cell? ⟨g, k * 2, none⟩ = some (.int .i64 x.leg) ∧ w.cell? ⟨g, k * 2 + 1, none⟩ = some (.int .i64 x.day) :=
  ⟨own_news Trip_len hO (k * 2) _ (flatMap_at Trip_len L k x 0 _ hx rfl), own_news Trip_len hO (k * 2 + 1) _ (flatMap_at Trip_len L k x 1 _ hx rfl)⟩
set_option maxHeartbeats 12800000 in
theorem tripsS (legs : List LegD) (off : List Int) (ch : Int) (p : ByteArray) (u v : Int) (l o : Value) (w : World) (hok : ∀ x ∈ legs, x.ok) (sl : SliceOf w 6 LegD.vals l legs) (so : SliceOf w 1 vI o off) : Calls Try.prog 6 #[.agg #[l, o, .int .i64 ch], .string p, .int .i64 u, .int .i64 v] w (TrP legs off ch p u v w) := by
  obtain ⟨A, c, rfl, hl, hm⟩ := sl.form
  obtain ⟨A', c', rfl, hl', hm'⟩ := so.form
  obtain ⟨i0, hi, hz0, hz1, hz2⟩ := info_parts info_tripT
  go_enter Try.func6, Try.ntmps6
  go_wp2_with fail
  obtain ⟨W0, hW0⟩ : ∃ W, W = w.alloc (.cells #[.slice A legs.length c, .slice A' off.length c', .int .i64 ch] 31) := ⟨_, rfl⟩
  rw [← hW0]
  have z0 : W0.heap.size = w.heap.size + 1 := by rw [hW0]; simp
  have b0 : Below w.heap.size w W0 := by rw [hW0]; go_grown
  have n0 : W0.cell? ⟨w.heap.size, 0, none⟩ = some (.slice A legs.length c) := by rw [hW0]; simp [go_sem]
  have n1 : W0.cell? ⟨w.heap.size, 1, none⟩ = some (.slice A' off.length c') := by rw [hW0]; simp [go_sem]
  have n2 : W0.cell? ⟨w.heap.size, 2, none⟩ = some (.int .i64 ch) := by rw [hW0]; simp [go_sem]
  clear hW0
  replace sl := sl.keep b0 (Nat.le_refl _)
  replace so := so.keep b0 (Nat.le_refl _)
  obtain ⟨nb, hnb⟩ : ∃ nb, nb = w.heap.size := ⟨_, rfl⟩
  rw [← hnb] at n0 n1 n2 z0
  rw [← hnb]
  obtain ⟨W, hW⟩ : ∃ W, W = W0.alloc (.cells #[] 45) := ⟨_, rfl⟩
  rw [← hW]
  have hO : Own W W0.heap.size 45 2 TripD.vals (.slice (some ⟨nb + 1, 0, none⟩) 0 0) [] := by
    have hO := own_none0 W0 45 2 TripD.vals
    rw [z0] at hO
    rw [hW, z0]; exact hO
  have bW : Below W0.heap.size W0 W := by rw [hW]; exact below_allocI (Below.refl _ _) _
  have hwn : w.heap.size + 1 ≤ W0.heap.size := by omega
  have HNB := Lib.hid hnb; have HZ0 := Lib.hid z0
  clear hW hnb z0
  have SL := sl.keep bW (Nat.le_refl _)
  have SO := so.keep bW (Nat.le_refl _)
  refine (isNetS legs off ch _ _ _ hok SL SO).mono ?_
  rintro e w1 ⟨rfl, b1⟩
  replace hO := hO.keep b1 (Nat.le_refl _)
  have B1 := chain bW b1
  clear SL SO b1 bW
  cases hnet : netB legs off ch
  · go_wp2_with fail
    go_ret
    exact ⟨_, [], rfl, hO.mono (by omega), Lib.hid ⟨fun h => by rw [hnet] at h; exact Bool.noConfusion h, fun _ => rfl⟩, Nat.zero_le _, chain b0 B1⟩
  · have hln : legs.length ≤ 20 := by
      unfold netB at hnet
      simp only [Bool.and_eq_true, decide_eq_true_eq] at hnet
      exact hnet.1.1.2
    have HLN := Lib.hid hln
    go_wp2_with fail
    go_loopw [9, 10, 11, 12, 13] (fun ov iv _ _ _ wr => ∃ (i : Nat) (L : List TripD), i ≤ legs.length ∧ iv = .int .i64 (i : Int) ∧ Own wr W0.heap.size 45 2 TripD.vals ov L ∧ ov ≠ .slice none 0 0 ∧ Below W0.heap.size W0 wr ∧ Hid (PartT legs off p u v (DoneS i 0) L) ∧ L.length ≤ i * 61) (fun _ iv _ _ _ _ => legs.length - (intOf iv).toNat)
    case atStart => exact ⟨0, [], Nat.zero_le _, rfl, hO, (by intro e; cases e), B1, Lib.hid (PartT.zero fun t ht h => by unfold DoneS at h; have := ht.box; omega), Nat.zero_le _⟩
    case round =>
      clear hO B1
      obtain ⟨i, L, hil, rfl, hO, hne, hB, HP, hLn⟩ := hrel
      have x0 := cell_keep hB n0
      have x1 := cell_keep hB n1
      have x2 := cell_keep hB n2
      by_cases hi2 : i < legs.length
      · have hi2' : (i : Int) < (legs.length : Int) := by omega
        have i0' : (0 : Int) ≤ (i : Int) := by omega
        obtain ⟨b_, off_, x, rfl, hb_, hx, hcell⟩ := sl.cells hi2
        have hgi := fun (d : Nat) => good_iff (off := off) (p := p) (u := u) (v := v) (d := d) hx.out
        obtain ⟨f, t, q2, q3, q4, q5⟩ := x
        simp only at hgi
        have HGI := Lib.hid hgi; clear hgi
        have hc0 : W0.cell? ⟨b_, off_ + i * 6, none⟩ = some (.string f) := hcell 0 _ rfl
        clear hcell
        have hik : okI (i : Int) := by unfold okI; omega
        obtain ⟨wo, rfl⟩ : ∃ wo : World, wo = wr := ⟨_, rfl⟩
        go_wp2_with fail
        go_loopw [9, 11, 12, 13] (fun ov dv _ _ wr => ∃ (dd : Nat) (L : List TripD), dd ≤ 61 ∧ dv = .int .i64 (dd : Int) ∧ Own wr W0.heap.size 45 2 TripD.vals ov L ∧ ov ≠ .slice none 0 0 ∧ Below W0.heap.size W0 wr ∧ Hid (PartT legs off p u v (DoneS i dd) L) ∧ L.length ≤ i * 61 + dd) (fun _ dv _ _ _ => 61 - (intOf dv).toNat)
        case atStart => exact ⟨0, L, Nat.zero_le _, rfl, hO, hne, hB, HP, hLn⟩
        case round =>
          clear x0 x1 x2 hO hne hB HP hLn L
          obtain ⟨dd, L, hdd, rfl, hO, hne, hB, HP, hLn⟩ := hrel
          by_cases hlt : dd < 61
          · have hlt' : (dd : Int) ≤ 60 := by omega
            obtain ⟨g, cp, rfl, hgb, hgl, hc1, hc2⟩ := hO.some1 hne
            unfold maxLen at hc2
            have x0 := cell_keep hB n0
            have x1 := cell_keep hB n1
            have x2 := cell_keep hB n2
            have SL := sl.keep hB (Nat.le_refl _)
            have SO := so.keep hB (Nat.le_refl _)
            have c0 : wr.cell? ⟨b_, off_ + i * 6, none⟩ = some (.string f) := (hB.cell (p := ⟨b_, _, none⟩) hb_).trans hc0
            have nbl := cell_lt x0
            simp only at nbl
            have nb1 : nb ≠ wr.heap.size := Nat.ne_of_lt nbl
            have cbl := cell_lt c0
            simp only at cbl
            have cb1 : b_ ≠ wr.heap.size := Nat.ne_of_lt cbl
            have hdk : okI (dd : Int) := by unfold okI; omega
            cases heq : (f.toList == p.toList)
            · have hno := txt_no heq
              have HNE := Lib.hid hno; clear hno
              have heq' : (f.toList != p.toList) = true := by simp [bne, heq]
              have HS := Lib.hid (DoneS.skip HP.out (fun h => HNE.out ((HGI.out dd).1 h).1))
              clear HP
              go_wp2_with fail
              go_roundw
              case rel => exact ⟨dd + 1, L, by omega, by go_num, hO.alloc _, hne, (chain hB (below_allocI (Below.refl _ _) _)), HS, by omega⟩
              case measure => simp [intOf]; omega
            · have hyes := txt_yes heq
              have HYES := Lib.hid hyes; clear hyes
              have heq' : (f.toList != p.toList) = false := by simp [bne, heq]
              go_wp2_with fail
              clear c0
              obtain ⟨V, hV⟩ : ∃ V, V = wr.alloc (.cells #[.int .i64 (i : Int), .int .i64 (dd : Int)] 45) := ⟨_, rfl⟩
              rw [← hV]
              obtain ⟨tb, htb⟩ : ∃ tb, tb = wr.heap.size := ⟨_, rfl⟩
              rw [← htb]
              have t0 : V.cell? ⟨tb, 0, none⟩ = some (.int .i64 (i : Int)) := by rw [hV, htb]; simp [go_sem]
              have t1 : V.cell? ⟨tb, 1, none⟩ = some (.int .i64 (dd : Int)) := by rw [hV, htb]; simp [go_sem]
              have bV : Below wr.heap.size wr V := by rw [hV]; exact below_allocI (Below.refl _ _) _
              clear hV
              have HTB := Lib.hid htb; clear htb nb1 cb1 nbl cbl hgl
              replace x0 := cell_keep bV x0
              replace x1 := cell_keep bV x1
              replace x2 := cell_keep bV x2
              replace SL := SL.keep bV (Nat.le_refl _)
              replace SO := SO.keep bV (Nat.le_refl _)
              replace hO := hO.keep bV (Nat.le_refl _)
              replace hB := chain hB bV
              clear bV
              refine (runsS legs off ch i dd _ _ _ hnet hik hdk SL SO).mono ?_
              rintro e w2 ⟨rfl, b2⟩
              replace x0 := cell_keep b2 x0
              replace x1 := cell_keep b2 x1
              replace x2 := cell_keep b2 x2
              replace SL := SL.keep b2 (Nat.le_refl _)
              replace SO := SO.keep b2 (Nat.le_refl _)
              replace hO := hO.keep b2 (Nat.le_refl _)
              replace hB := chain hB b2
              replace t0 := cell_keep b2 t0
              replace t1 := cell_keep b2 t1
              clear b2
              cases hr : runsB legs off i dd
              · have HR := Lib.hid hr
                have HS := Lib.hid (DoneS.skip HP.out (fun h => by have := ((HGI.out dd).1 h).2.1; rw [HR.out] at this; exact Bool.noConfusion this))
                clear HP
                go_wp2_with fail
                go_roundw
                case rel => exact ⟨dd + 1, L, by omega, by go_num, hO, hne, hB, HS, by omega⟩
                case measure => simp [intOf]; omega
              · have HR := Lib.hid hr
                go_wp2_with fail
                refine (startsS legs off ch dd i _ _ _ hnet hi2 (by omega) hlt' SL SO).mono ?_
                rintro e w3 ⟨rfl, b3⟩
                replace x0 := cell_keep b3 x0
                replace x1 := cell_keep b3 x1
                replace x2 := cell_keep b3 x2
                replace SL := SL.keep b3 (Nat.le_refl _)
                replace SO := SO.keep b3 (Nat.le_refl _)
                replace hO := hO.keep b3 (Nat.le_refl _)
                replace hB := chain hB b3
                replace t0 := cell_keep b3 t0
                replace t1 := cell_keep b3 t1
                clear b3
                by_cases hu : startT legs (i : Int) (dd : Int) < u
                · skip
                  have HS := Lib.hid (DoneS.skip HP.out (fun h => by have := ((HGI.out dd).1 h).2.2.1; omega))
                  clear HP
                  go_wp2_with fail
                  go_roundw
                  case rel => exact ⟨dd + 1, L, by omega, by go_num, hO, hne, hB, HS, by omega⟩
                  case measure => simp [intOf]; omega
                have hu2 := Int.not_lt.1 hu
                go_wp2_with fail
                refine (startsS legs off ch dd i _ _ _ hnet hi2 (by omega) hlt' SL SO).mono ?_
                rintro e w4 ⟨rfl, b4⟩
                replace x0 := cell_keep b4 x0
                replace x1 := cell_keep b4 x1
                replace x2 := cell_keep b4 x2
                replace SL := SL.keep b4 (Nat.le_refl _)
                replace SO := SO.keep b4 (Nat.le_refl _)
                replace hO := hO.keep b4 (Nat.le_refl _)
                replace hB := chain hB b4
                replace t0 := cell_keep b4 t0
                replace t1 := cell_keep b4 t1
                clear b4
                by_cases hv : v ≤ startT legs (i : Int) (dd : Int)
                · skip
                  have HS := Lib.hid (DoneS.skip HP.out (fun h => by have := ((HGI.out dd).1 h).2.2.2; omega))
                  clear HP
                  go_wp2_with fail
                  go_roundw
                  case rel => exact ⟨dd + 1, L, by omega, by go_num, hO, hne, hB, HS, by omega⟩
                  case measure => simp [intOf]; omega
                have hv2 := Int.not_le.1 hv
                have HGD := Lib.hid ((HGI.out dd).2 ⟨HYES.out, HR.out, hu2, hv2⟩)
                have HBOX := Lib.hid (fun (x : TripD) (hx : x ∈ L) => ((HP.out.mem x).1 hx).1.box)
                have HX0 := Lib.hid x0; have HX1 := Lib.hid x1; have HX2 := Lib.hid x2; have HT0 := Lib.hid t0; have HT1 := Lib.hid t1; have HSL := Lib.hid SL; have HSO := Lib.hid SO; have HO4 := Lib.hid hO; have HB4 := Lib.hid hB
                clear x0 x1 x2 t0 t1 SL SO hO hB
                go_wp2_with fail
                go_loopw [13] (fun kv wr => ∃ k : Nat, k ≤ L.length ∧ kv = .int .i64 (k : Int) ∧ Hid (∀ (j : Nat) (x : TripD), k ≤ j → L[j]? = some x → sT legs ⟨i, dd⟩ < sT legs x) ∧ Below w4.heap.size w4 wr) (fun kv _ => (intOf kv).toNat)
                case atStart => exact ⟨L.length, Nat.le_refl _, rfl, Lib.hid (fun j x h1 h2 => by rw [List.getElem?_eq_none h1] at h2; cases h2), Below.refl _ _⟩
                case round =>
                  obtain ⟨k, hk, rfl, HHI, hB5⟩ := hrel
                  by_cases hk0 : 0 < k
                  · obtain ⟨m, rfl⟩ : ∃ m, k = m + 1 := ⟨k - 1, by omega⟩
                    obtain ⟨x, hx'⟩ : ∃ x, L[m]? = some x := ⟨_, List.getElem?_eq_getElem (by omega)⟩
                    have hbx := HBOX.out x (List.mem_of_getElem? hx')
                    have hcl := own_cells2 (HO4.out.keep hB5 (Nat.le_refl _)) hx'
                    have HXM := Lib.hid hx'; clear hx'
                    obtain ⟨xl, y⟩ := x
                    obtain ⟨⟨bx0, bx1⟩, bx2, bx3⟩ := hbx
                    simp only at hcl bx0 bx1 bx2 bx3
                    obtain ⟨q, rfl⟩ := Int.eq_ofNat_of_zero_le bx0
                    have lq : q < legs.length := by omega
                    obtain ⟨r0, r1⟩ := hcl
                    obtain ⟨wt, rfl⟩ : ∃ wt : World, wt = wr := ⟨_, rfl⟩
                    have x0 := cell_keep hB5 HX0.out
                    have x1 := cell_keep hB5 HX1.out
                    have x2 := cell_keep hB5 HX2.out
                    have t0 := cell_keep hB5 HT0.out
                    have t1 := cell_keep hB5 HT1.out
                    have SL := HSL.out.keep hB5 (Nat.le_refl _)
                    have SO := HSO.out.keep hB5 (Nat.le_refl _)
                    have wm : IntKind.i64.wrap (m : Int) = (m : Int) := IntWalk.i64_in _ (by omega)
                    have m0 : (0 : Int) ≤ (m : Int) := by omega
                    have m1 : (m : Int) < (L.length : Int) := by omega
                    have m2 : (0 : Int) < (m : Int) + 1 := by omega
                    have BR := Lib.hid (Below.refl wt.heap.size wt).drew
                    have HGT : Hid (∀ b : Bool, decide (startT legs (i : Int) (dd : Int) < startT legs (q : Int) y) = b → (b = true ↔ sT legs ⟨i, dd⟩ < sT legs ⟨(q : Int), y⟩)) := Lib.hid (fun b hb => by rw [← hb]; exact decide_eq_true_iff)
                    have d0' : (0 : Int) ≤ (dd : Int) := by omega
                    cases hgt : decide (startT legs (i : Int) (dd : Int) < startT legs (q : Int) y)
                    · skip
                      have hgt2 : ¬ startT legs (i : Int) (dd : Int) < startT legs (q : Int) y := by exact of_decide_eq_false hgt
                      have HGT2 := Lib.hid hgt2
                      go_wp2_with fail
                      go_region_held3 (fun Q => Q.cell? ⟨nb, 0, none⟩ = some (.slice (some ⟨b_, off_, none⟩) legs.length c) ∧ Q.cell? ⟨nb, 1, none⟩ = some (.slice A' off.length c') ∧ Q.cell? ⟨nb, 2, none⟩ = some (.int .i64 ch) ∧ Q.cell? ⟨tb, 0, none⟩ = some (.int .i64 (i : Int)) ∧ Q.cell? ⟨tb, 1, none⟩ = some (.int .i64 (dd : Int)) ∧ Q.cell? ⟨g, m * 2, none⟩ = some (.int .i64 (q : Int)) ∧ Q.cell? ⟨g, m * 2 + 1, none⟩ = some (.int .i64 y) ∧ Below wt.heap.size wt Q)
                        (((try go_split_ands); refine ⟨?_, ?_, ?_, ?_, ?_, ?_, ?_, ?_⟩ <;> first | with_reducible assumption | with_reducible exact BR.out | (with_reducible apply cell_drewI; with_reducible assumption) | (with_reducible apply cell_keep <;> with_reducible assumption) | (with_reducible apply chain' <;> with_reducible assumption)))
                        ((first | (go_at_call 24; (try go_split_ands); with_reducible refine (startsS legs off ch y q _ _ _ hnet lq bx2 bx3 (SL.keep (by assumption) (Nat.le_refl _)) (SO.keep (by assumption) (Nat.le_refl _))).mono ?_; rintro e w8 ⟨rfl, b8⟩) | (go_at_call 24; (try go_split_ands); with_reducible refine (startsS legs off ch (dd : Int) i _ _ _ hnet hi2 d0' hlt' (SL.keep (by assumption) (Nat.le_refl _)) (SO.keep (by assumption) (Nat.le_refl _))).mono ?_; rintro e w9 ⟨rfl, b9⟩)))
                      all_goals
                        (try go_split_ands)
                        have bz : Below wt.heap.size wt w9 := by assumption
                        have HBZ := Lib.hid (chain hB5 bz)
                        clear x0 x1 x2 r0 r1 SL SO b8 b9 BR
                        have HLO : Hid (m + 1 = 0 ∨ ∃ x, L[m + 1 - 1]? = some x ∧ ¬ sT legs ⟨i, dd⟩ < sT legs x) := Lib.hid (.inr ⟨_, HXM.out, by first | exact HGT2.out | exact Int.not_lt.2 HGT2.out⟩)
                        obtain ⟨k, hkm⟩ : ∃ k, k = m + 1 := ⟨_, rfl⟩
                        have hkm2 : (m : Int) + 1 = (k : Int) := by omega
                        rw [hkm2]
                        rw [← hkm] at HLO HHI hk
                        have hOz := HO4.out.keep HBZ.out (Nat.le_refl _)
                        have z0c := cell_keep HBZ.out HT0.out
                        have z1c := cell_keep HBZ.out HT1.out
                        have hBz := chain HB4.out HBZ.out
                        obtain ⟨wz, hwz⟩ : ∃ wz : World, wz = w9 := ⟨_, rfl⟩
                        rw [← hwz] at hOz z0c z1c hBz ⊢
                        clear hwz hkm hkm2 hgt hgt2 m0 m1 m2 wm bz t0 t1 hk0 HBZ
                        have HPU := Lib.hid (DoneS.put HP.out HGD.out hk HHI.out HLO.out)
                        have k0 : (0 : Int) ≤ (k : Int) := by omega
                        have k1 : (k : Int) ≤ (L.length : Int) := by omega
                        have k2 : (k : Int) ≤ (cp : Int) := by omega
                        have hgl := (World.ownsRow.lt hOz g rfl).2
                        have hl8 : L.length ≤ 2097152 := by omega
                        by_cases hkc : cp = k
                        · skip
                          obtain rfl : k = L.length := by omega
                          subst hkc
                          go_wp2_with fail
                          obtain ⟨T, hT, hTl, hs1⟩ : ∃ T, T = L.take L.length ∧ T.length = L.length ∧ ∀ j u, (T.flatMap TripD.vals)[j]? = some u → wz.cell? ⟨g, j, none⟩ = some u := ⟨_, rfl, by rw [List.length_take]; omega, news_take L.length (own_news Trip_len hOz)⟩
                          obtain ⟨D, hD, hDl, hs2⟩ : ∃ D, D = L.drop L.length ∧ D.length = L.length - L.length ∧ ∀ j u, (D.flatMap TripD.vals)[j]? = some u → wz.cell? ⟨g, L.length * 2 + j, none⟩ = some u := ⟨_, rfl, by rw [List.length_drop], news_drop Trip_len (by omega) (own_news Trip_len hOz)⟩
                          have N1 := Lib.hid hs1
                          have N2 := Lib.hid hs2
                          have HT := Lib.hid hT
                          have HD := Lib.hid hD
                          have HTl := Lib.hid hTl
                          have HDl := Lib.hid hDl
                          have Z0 := Lib.hid z0c
                          have Z1 := Lib.hid z1c
                          clear hs1 hs2 hT hD hTl hDl z0c z1c
                          have bR := Lib.hid (Below.refl wz.heap.size wz)
                          have X1 := Lib.hid (fun W : World => cell_newI2 W (.int .i64 (i : Int)) (.int .i64 (dd : Int)) 45)
                          have q0 := cell_drewI Z0.out
                          have q1 := cell_drewI Z1.out
                          have q2 := bR.out.drew
                          go_region_held3 (fun Q => Q.cell? ⟨tb, 0, none⟩ = some (.int .i64 (i : Int)) ∧ Q.cell? ⟨tb, 1, none⟩ = some (.int .i64 (dd : Int)) ∧ Below wz.heap.size wz Q)
                            (((try go_split_ands); refine ⟨?_, ?_, ?_⟩ <;> repeat' (first | with_reducible assumption | with_reducible exact bR.out | with_reducible refine Below.drew ?_ | with_reducible refine below_allocI ?_ _ | with_reducible refine cell_keep (a := wz) ?_ Z0.out | with_reducible refine cell_keep (a := wz) ?_ Z1.out)))
                            ((first
                              | (refine step_append_vals (vals := TripD.vals) (size := 2) (bytes := 16) Trip_len Trip_one (by decide) Try.underlying27 hi hz0 hz1 hz2 rfl (by decide) (by rfl) (.tmp 81) (.tmp 84) (by rfl) (wt := wz) ?_ _ [] rfl ?_ _ L.length L.length T rfl HTl.out ?_ ?_ ?_
                                 ((try go_split_ands); assumption)
                                 first | exact own_start bR.out _ _ _ | exact (own_start bR.out _ _ _).alloc _ | exact own_start2 _ _ _ _ _ | fail
                                 exact news_keep0 (by (try go_split_ands); assumption) hgl N1.out
                                 exact ins_small0 HTl.out (Nat.le_refl _) hl8
                                 intro v1 w1 O1 hB1 nil1 gr1
                                 replace nil1 := nil1 (by intro e; cases e)
                                 first | (have hx2 := ins_xA2 gr1) | (have hx2 := ins_xB2 gr1) | skip)
                              | (refine step_append_vals (vals := TripD.vals) (size := 2) (bytes := 16) Trip_len Trip_one (by decide) Try.underlying27 hi hz0 hz1 hz2 rfl (by decide) (by rfl) (.tmp 85) (.tmp 87) (by rfl) (wt := wz) ?_ v1 T rfl ?_ _ 1 1 [⟨(i : Int), (dd : Int)⟩] rfl rfl ?_ ?_ ?_
                                 ((try go_split_ands); assumption)
                                 first | exact O1 | exact O1.alloc _
                                 first | exact news_two hx2 | exact news_two (X1.out _) | fail
                                 exact ins_small1 HTl.out (Nat.le_refl _) hl8
                                 intro v2 w2 O2 hB2 nil2 gr2
                                 replace nil2 := nil2 nil1)
                              | (refine step_append_vals (vals := TripD.vals) (size := 2) (bytes := 16) Trip_len Trip_one (by decide) Try.underlying27 hi hz0 hz1 hz2 rfl (by decide) (by rfl) (.tmp 88) (.tmp 91) (by rfl) (wt := wz) ?_ v2 (T ++ [⟨(i : Int), (dd : Int)⟩]) rfl O2 _ (0) _ D rfl (HDl.out.trans (Nat.sub_self _)) ?_ ?_ ?_
                                 ((try go_split_ands); assumption)
                                 exact news_none (HDl.out.trans (Nat.sub_self _))
                                 exact ins_small (n := L.length) HTl.out (by first | exact HDl.out | (have := HDl.out; omega)) (Nat.le_refl _) hl8
                                 intro v3 w3 O3 hB3 nil3 gr3
                                 replace nil3 := nil3 nil2)))
                          all_goals
                            obtain ⟨L', hL'⟩ : ∃ L', L' = T ++ [⟨(i : Int), (dd : Int)⟩] ++ D := ⟨_, rfl⟩
                            rw [← hL'] at O3
                            have HP3 : Hid (PartT legs off p u v (DoneS i (dd + 1)) L') := Lib.hid (by rw [hL', HT.out, HD.out]; exact HPU.out)
                            have hl3 : L'.length = L.length + 1 := by rw [hL', List.length_append, List.length_append, HTl.out, HDl.out]; simp only [List.length_singleton]; omega
                            have O4 := O3.mono (base' := W0.heap.size) hBz.size
                            have B4 := chain hBz hB3
                            have HL3 := Lib.hid hl3
                            clear hL' O3 O1 O2 nil2 nil1 hB1 hB2 hB3 gr1 gr2 gr3 hl3
                            go_wp2_with fail
                            go_roundw
                            case rel => exact ⟨dd + 1, L', by omega, by go_num, O4, nil3, B4, HP3, by have := HL3.out; omega⟩
                            case measure => simp [intOf]; omega
                        · skip
                          go_wp2_with fail
                          obtain ⟨T, hT, hTl, hs1⟩ : ∃ T, T = L.take k ∧ T.length = k ∧ ∀ j u, (T.flatMap TripD.vals)[j]? = some u → wz.cell? ⟨g, j, none⟩ = some u := ⟨_, rfl, by rw [List.length_take]; omega, news_take k (own_news Trip_len hOz)⟩
                          obtain ⟨D, hD, hDl, hs2⟩ : ∃ D, D = L.drop k ∧ D.length = L.length - k ∧ ∀ j u, (D.flatMap TripD.vals)[j]? = some u → wz.cell? ⟨g, k * 2 + j, none⟩ = some u := ⟨_, rfl, by rw [List.length_drop], news_drop Trip_len (by omega) (own_news Trip_len hOz)⟩
                          have N1 := Lib.hid hs1
                          have N2 := Lib.hid hs2
                          have HT := Lib.hid hT
                          have HD := Lib.hid hD
                          have HTl := Lib.hid hTl
                          have HDl := Lib.hid hDl
                          have Z0 := Lib.hid z0c
                          have Z1 := Lib.hid z1c
                          clear hs1 hs2 hT hD hTl hDl z0c z1c
                          have bR := Lib.hid (Below.refl wz.heap.size wz)
                          have X1 := Lib.hid (fun W : World => cell_newI2 W (.int .i64 (i : Int)) (.int .i64 (dd : Int)) 45)
                          have q0 := cell_drewI Z0.out
                          have q1 := cell_drewI Z1.out
                          have q2 := bR.out.drew
                          go_region_held3 (fun Q => Q.cell? ⟨tb, 0, none⟩ = some (.int .i64 (i : Int)) ∧ Q.cell? ⟨tb, 1, none⟩ = some (.int .i64 (dd : Int)) ∧ Below wz.heap.size wz Q)
                            (((try go_split_ands); refine ⟨?_, ?_, ?_⟩ <;> repeat' (first | with_reducible assumption | with_reducible exact bR.out | with_reducible refine Below.drew ?_ | with_reducible refine below_allocI ?_ _ | with_reducible refine cell_keep (a := wz) ?_ Z0.out | with_reducible refine cell_keep (a := wz) ?_ Z1.out)))
                            ((first
                              | (refine step_append_vals (vals := TripD.vals) (size := 2) (bytes := 16) Trip_len Trip_one (by decide) Try.underlying27 hi hz0 hz1 hz2 rfl (by decide) (by rfl) (.tmp 81) (.tmp 84) (by rfl) (wt := wz) ?_ _ [] rfl ?_ _ k cp T rfl HTl.out ?_ ?_ ?_
                                 ((try go_split_ands); assumption)
                                 first | exact own_start bR.out _ _ _ | exact (own_start bR.out _ _ _).alloc _ | exact own_start2 _ _ _ _ _ | fail
                                 exact news_keep0 (by (try go_split_ands); assumption) hgl N1.out
                                 exact ins_small0 HTl.out hk hl8
                                 intro v1 w1 O1 hB1 nil1 gr1
                                 replace nil1 := nil1 (by intro e; cases e)
                                 first | (have hx2 := ins_xA2 gr1) | (have hx2 := ins_xB2 gr1) | skip)
                              | (refine step_append_vals (vals := TripD.vals) (size := 2) (bytes := 16) Trip_len Trip_one (by decide) Try.underlying27 hi hz0 hz1 hz2 rfl (by decide) (by rfl) (.tmp 85) (.tmp 87) (by rfl) (wt := wz) ?_ v1 T rfl ?_ _ 1 1 [⟨(i : Int), (dd : Int)⟩] rfl rfl ?_ ?_ ?_
                                 ((try go_split_ands); assumption)
                                 first | exact O1 | exact O1.alloc _
                                 first | exact news_two hx2 | exact news_two (X1.out _) | fail
                                 exact ins_small1 HTl.out hk hl8
                                 intro v2 w2 O2 hB2 nil2 gr2
                                 replace nil2 := nil2 nil1)
                              | (refine step_append_vals (vals := TripD.vals) (size := 2) (bytes := 16) Trip_len Trip_one (by decide) Try.underlying27 hi hz0 hz1 hz2 rfl (by decide) (by rfl) (.tmp 88) (.tmp 91) (by rfl) (wt := wz) ?_ v2 (T ++ [⟨(i : Int), (dd : Int)⟩]) rfl O2 _ (L.length - k) _ D rfl HDl.out ?_ ?_ ?_
                                 ((try go_split_ands); assumption)
                                 exact news_keep hB2 hgl N2.out
                                 exact ins_small (n := L.length) HTl.out (by first | exact HDl.out | (have := HDl.out; omega)) hk hl8
                                 intro v3 w3 O3 hB3 nil3 gr3
                                 replace nil3 := nil3 nil2)))
                          all_goals
                            obtain ⟨L', hL'⟩ : ∃ L', L' = T ++ [⟨(i : Int), (dd : Int)⟩] ++ D := ⟨_, rfl⟩
                            rw [← hL'] at O3
                            have HP3 : Hid (PartT legs off p u v (DoneS i (dd + 1)) L') := Lib.hid (by rw [hL', HT.out, HD.out]; exact HPU.out)
                            have hl3 : L'.length = L.length + 1 := by rw [hL', List.length_append, List.length_append, HTl.out, HDl.out]; simp only [List.length_singleton]; omega
                            have O4 := O3.mono (base' := W0.heap.size) hBz.size
                            have B4 := chain hBz hB3
                            have HL3 := Lib.hid hl3
                            clear hL' O3 O1 O2 nil2 nil1 hB1 hB2 hB3 gr1 gr2 gr3 hl3
                            go_wp2_with fail
                            go_roundw
                            case rel => exact ⟨dd + 1, L', by omega, by go_num, O4, nil3, B4, HP3, by have := HL3.out; omega⟩
                            case measure => simp [intOf]; omega
                    · skip
                      have hgt2 : startT legs (i : Int) (dd : Int) < startT legs (q : Int) y := by exact of_decide_eq_true hgt
                      have HGT2 := Lib.hid hgt2
                      go_wp2_with fail
                      go_region_held3 (fun Q => Q.cell? ⟨nb, 0, none⟩ = some (.slice (some ⟨b_, off_, none⟩) legs.length c) ∧ Q.cell? ⟨nb, 1, none⟩ = some (.slice A' off.length c') ∧ Q.cell? ⟨nb, 2, none⟩ = some (.int .i64 ch) ∧ Q.cell? ⟨tb, 0, none⟩ = some (.int .i64 (i : Int)) ∧ Q.cell? ⟨tb, 1, none⟩ = some (.int .i64 (dd : Int)) ∧ Q.cell? ⟨g, m * 2, none⟩ = some (.int .i64 (q : Int)) ∧ Q.cell? ⟨g, m * 2 + 1, none⟩ = some (.int .i64 y) ∧ Below wt.heap.size wt Q)
                        (((try go_split_ands); refine ⟨?_, ?_, ?_, ?_, ?_, ?_, ?_, ?_⟩ <;> first | with_reducible assumption | with_reducible exact BR.out | (with_reducible apply cell_drewI; with_reducible assumption) | (with_reducible apply cell_keep <;> with_reducible assumption) | (with_reducible apply chain' <;> with_reducible assumption)))
                        ((first | (go_at_call 24; (try go_split_ands); with_reducible refine (startsS legs off ch y q _ _ _ hnet lq bx2 bx3 (SL.keep (by assumption) (Nat.le_refl _)) (SO.keep (by assumption) (Nat.le_refl _))).mono ?_; rintro e w8 ⟨rfl, b8⟩) | (go_at_call 24; (try go_split_ands); with_reducible refine (startsS legs off ch (dd : Int) i _ _ _ hnet hi2 d0' hlt' (SL.keep (by assumption) (Nat.le_refl _)) (SO.keep (by assumption) (Nat.le_refl _))).mono ?_; rintro e w9 ⟨rfl, b9⟩)))
                      all_goals
                        (try go_split_ands)
                        have bz : Below wt.heap.size wt w9 := by assumption
                        have HBZ := Lib.hid (chain hB5 bz)
                        clear x0 x1 x2 r0 r1 SL SO b8 b9 BR
                        go_wp2_with fail
                        go_roundw
                        case rel => exact ⟨m, by omega, by first | rfl | go_num, Lib.hid (fun j x h1 h2 => by
                          by_cases e : j = m
                          · subst e
                            obtain rfl : _ = x := by have := HXM.out.symm.trans h2; injection this
                            exact HGT2.out
                          · exact HHI.out j x (by omega) h2), HBZ.out⟩
                        case measure => simp [intOf] <;> omega
                  · skip
                    have hk0' : ¬ (0 : Int) < (k : Int) := by omega
                    have hOz := HO4.out.keep hB5 (Nat.le_refl _)
                    have z0c := cell_keep hB5 HT0.out
                    have z1c := cell_keep hB5 HT1.out
                    have hBz := chain HB4.out hB5
                    go_wp2_with fail
                    go_quiet (fail)
                    skip
                    obtain ⟨wz, hwz⟩ : ∃ wz : World, wz = wr.drewN nq := ⟨_, rfl⟩
                    rw [← hwz]
                    have hOz2 : Own wz W0.heap.size 45 2 TripD.vals (.slice (some ⟨g, 0, none⟩) L.length cp) L := by rw [hwz]; exact hOz.drewN nq
                    have y0c : wz.cell? ⟨tb, 0, none⟩ = some (.int .i64 (i : Int)) := by rw [hwz]; exact z0c
                    have y1c : wz.cell? ⟨tb, 1, none⟩ = some (.int .i64 (dd : Int)) := by rw [hwz]; exact z1c
                    have hBz2 : Below W0.heap.size W0 wz := by rw [hwz]; exact below_drewN hBz nq
                    clear hOz z0c z1c hBz
                    have hOz := hOz2; have z0c := y0c; have z1c := y1c; have hBz := hBz2
                    clear hOz2 y0c y1c hBz2
                    have HLO : Hid (k = 0 ∨ ∃ x, L[k - 1]? = some x ∧ ¬ sT legs ⟨i, dd⟩ < sT legs x) := Lib.hid (.inl (by omega))
                    clear hwz
                    have HPU := Lib.hid (DoneS.put HP.out HGD.out hk HHI.out HLO.out)
                    have k0 : (0 : Int) ≤ (k : Int) := by omega
                    have k1 : (k : Int) ≤ (L.length : Int) := by omega
                    have k2 : (k : Int) ≤ (cp : Int) := by omega
                    have hgl := (World.ownsRow.lt hOz g rfl).2
                    have hl8 : L.length ≤ 2097152 := by omega
                    by_cases hkc : cp = k
                    · skip
                      obtain rfl : k = L.length := by omega
                      subst hkc
                      go_wp2_with fail
                      obtain ⟨T, hT, hTl, hs1⟩ : ∃ T, T = L.take L.length ∧ T.length = L.length ∧ ∀ j u, (T.flatMap TripD.vals)[j]? = some u → wz.cell? ⟨g, j, none⟩ = some u := ⟨_, rfl, by rw [List.length_take]; omega, news_take L.length (own_news Trip_len hOz)⟩
                      obtain ⟨D, hD, hDl, hs2⟩ : ∃ D, D = L.drop L.length ∧ D.length = L.length - L.length ∧ ∀ j u, (D.flatMap TripD.vals)[j]? = some u → wz.cell? ⟨g, L.length * 2 + j, none⟩ = some u := ⟨_, rfl, by rw [List.length_drop], news_drop Trip_len (by omega) (own_news Trip_len hOz)⟩
                      have N1 := Lib.hid hs1
                      have N2 := Lib.hid hs2
                      have HT := Lib.hid hT
                      have HD := Lib.hid hD
                      have HTl := Lib.hid hTl
                      have HDl := Lib.hid hDl
                      have Z0 := Lib.hid z0c
                      have Z1 := Lib.hid z1c
                      clear hs1 hs2 hT hD hTl hDl z0c z1c
                      have bR := Lib.hid (Below.refl wz.heap.size wz)
                      have X1 := Lib.hid (fun W : World => cell_newI2 W (.int .i64 (i : Int)) (.int .i64 (dd : Int)) 45)
                      have q0 := cell_drewI Z0.out
                      have q1 := cell_drewI Z1.out
                      have q2 := bR.out.drew
                      go_region_held3 (fun Q => Q.cell? ⟨tb, 0, none⟩ = some (.int .i64 (i : Int)) ∧ Q.cell? ⟨tb, 1, none⟩ = some (.int .i64 (dd : Int)) ∧ Below wz.heap.size wz Q)
                        (((try go_split_ands); refine ⟨?_, ?_, ?_⟩ <;> repeat' (first | with_reducible assumption | with_reducible exact bR.out | with_reducible refine Below.drew ?_ | with_reducible refine below_allocI ?_ _ | with_reducible refine cell_keep (a := wz) ?_ Z0.out | with_reducible refine cell_keep (a := wz) ?_ Z1.out)))
                        ((first
                          | (refine step_append_vals (vals := TripD.vals) (size := 2) (bytes := 16) Trip_len Trip_one (by decide) Try.underlying27 hi hz0 hz1 hz2 rfl (by decide) (by rfl) (.tmp 81) (.tmp 84) (by rfl) (wt := wz) ?_ _ [] rfl ?_ _ L.length L.length T rfl HTl.out ?_ ?_ ?_
                             ((try go_split_ands); assumption)
                             first | exact own_start bR.out _ _ _ | exact (own_start bR.out _ _ _).alloc _ | exact own_start2 _ _ _ _ _ | fail
                             exact news_keep0 (by (try go_split_ands); assumption) hgl N1.out
                             exact ins_small0 HTl.out (Nat.le_refl _) hl8
                             intro v1 w1 O1 hB1 nil1 gr1
                             replace nil1 := nil1 (by intro e; cases e)
                             first | (have hx2 := ins_xA2 gr1) | (have hx2 := ins_xB2 gr1) | skip)
                          | (refine step_append_vals (vals := TripD.vals) (size := 2) (bytes := 16) Trip_len Trip_one (by decide) Try.underlying27 hi hz0 hz1 hz2 rfl (by decide) (by rfl) (.tmp 85) (.tmp 87) (by rfl) (wt := wz) ?_ v1 T rfl ?_ _ 1 1 [⟨(i : Int), (dd : Int)⟩] rfl rfl ?_ ?_ ?_
                             ((try go_split_ands); assumption)
                             first | exact O1 | exact O1.alloc _
                             first | exact news_two hx2 | exact news_two (X1.out _) | fail
                             exact ins_small1 HTl.out (Nat.le_refl _) hl8
                             intro v2 w2 O2 hB2 nil2 gr2
                             replace nil2 := nil2 nil1)
                          | (refine step_append_vals (vals := TripD.vals) (size := 2) (bytes := 16) Trip_len Trip_one (by decide) Try.underlying27 hi hz0 hz1 hz2 rfl (by decide) (by rfl) (.tmp 88) (.tmp 91) (by rfl) (wt := wz) ?_ v2 (T ++ [⟨(i : Int), (dd : Int)⟩]) rfl O2 _ (0) _ D rfl (HDl.out.trans (Nat.sub_self _)) ?_ ?_ ?_
                             ((try go_split_ands); assumption)
                             exact news_none (HDl.out.trans (Nat.sub_self _))
                             exact ins_small (n := L.length) HTl.out (by first | exact HDl.out | (have := HDl.out; omega)) (Nat.le_refl _) hl8
                             intro v3 w3 O3 hB3 nil3 gr3
                             replace nil3 := nil3 nil2)))
                      all_goals
                        obtain ⟨L', hL'⟩ : ∃ L', L' = T ++ [⟨(i : Int), (dd : Int)⟩] ++ D := ⟨_, rfl⟩
                        rw [← hL'] at O3
                        have HP3 : Hid (PartT legs off p u v (DoneS i (dd + 1)) L') := Lib.hid (by rw [hL', HT.out, HD.out]; exact HPU.out)
                        have hl3 : L'.length = L.length + 1 := by rw [hL', List.length_append, List.length_append, HTl.out, HDl.out]; simp only [List.length_singleton]; omega
                        have O4 := O3.mono (base' := W0.heap.size) hBz.size
                        have B4 := chain hBz hB3
                        have HL3 := Lib.hid hl3
                        clear hL' O3 O1 O2 nil2 nil1 hB1 hB2 hB3 gr1 gr2 gr3 hl3
                        go_wp2_with fail
                        go_roundw
                        case rel => exact ⟨dd + 1, L', by omega, by go_num, O4, nil3, B4, HP3, by have := HL3.out; omega⟩
                        case measure => simp [intOf]; omega
                    · skip
                      go_wp2_with fail
                      obtain ⟨T, hT, hTl, hs1⟩ : ∃ T, T = L.take k ∧ T.length = k ∧ ∀ j u, (T.flatMap TripD.vals)[j]? = some u → wz.cell? ⟨g, j, none⟩ = some u := ⟨_, rfl, by rw [List.length_take]; omega, news_take k (own_news Trip_len hOz)⟩
                      obtain ⟨D, hD, hDl, hs2⟩ : ∃ D, D = L.drop k ∧ D.length = L.length - k ∧ ∀ j u, (D.flatMap TripD.vals)[j]? = some u → wz.cell? ⟨g, k * 2 + j, none⟩ = some u := ⟨_, rfl, by rw [List.length_drop], news_drop Trip_len (by omega) (own_news Trip_len hOz)⟩
                      have N1 := Lib.hid hs1
                      have N2 := Lib.hid hs2
                      have HT := Lib.hid hT
                      have HD := Lib.hid hD
                      have HTl := Lib.hid hTl
                      have HDl := Lib.hid hDl
                      have Z0 := Lib.hid z0c
                      have Z1 := Lib.hid z1c
                      clear hs1 hs2 hT hD hTl hDl z0c z1c
                      have bR := Lib.hid (Below.refl wz.heap.size wz)
                      have X1 := Lib.hid (fun W : World => cell_newI2 W (.int .i64 (i : Int)) (.int .i64 (dd : Int)) 45)
                      have q0 := cell_drewI Z0.out
                      have q1 := cell_drewI Z1.out
                      have q2 := bR.out.drew
                      go_region_held3 (fun Q => Q.cell? ⟨tb, 0, none⟩ = some (.int .i64 (i : Int)) ∧ Q.cell? ⟨tb, 1, none⟩ = some (.int .i64 (dd : Int)) ∧ Below wz.heap.size wz Q)
                        (((try go_split_ands); refine ⟨?_, ?_, ?_⟩ <;> repeat' (first | with_reducible assumption | with_reducible exact bR.out | with_reducible refine Below.drew ?_ | with_reducible refine below_allocI ?_ _ | with_reducible refine cell_keep (a := wz) ?_ Z0.out | with_reducible refine cell_keep (a := wz) ?_ Z1.out)))
                        ((first
                          | (refine step_append_vals (vals := TripD.vals) (size := 2) (bytes := 16) Trip_len Trip_one (by decide) Try.underlying27 hi hz0 hz1 hz2 rfl (by decide) (by rfl) (.tmp 81) (.tmp 84) (by rfl) (wt := wz) ?_ _ [] rfl ?_ _ k cp T rfl HTl.out ?_ ?_ ?_
                             ((try go_split_ands); assumption)
                             first | exact own_start bR.out _ _ _ | exact (own_start bR.out _ _ _).alloc _ | exact own_start2 _ _ _ _ _ | fail
                             exact news_keep0 (by (try go_split_ands); assumption) hgl N1.out
                             exact ins_small0 HTl.out hk hl8
                             intro v1 w1 O1 hB1 nil1 gr1
                             replace nil1 := nil1 (by intro e; cases e)
                             first | (have hx2 := ins_xA2 gr1) | (have hx2 := ins_xB2 gr1) | skip)
                          | (refine step_append_vals (vals := TripD.vals) (size := 2) (bytes := 16) Trip_len Trip_one (by decide) Try.underlying27 hi hz0 hz1 hz2 rfl (by decide) (by rfl) (.tmp 85) (.tmp 87) (by rfl) (wt := wz) ?_ v1 T rfl ?_ _ 1 1 [⟨(i : Int), (dd : Int)⟩] rfl rfl ?_ ?_ ?_
                             ((try go_split_ands); assumption)
                             first | exact O1 | exact O1.alloc _
                             first | exact news_two hx2 | exact news_two (X1.out _) | fail
                             exact ins_small1 HTl.out hk hl8
                             intro v2 w2 O2 hB2 nil2 gr2
                             replace nil2 := nil2 nil1)
                          | (refine step_append_vals (vals := TripD.vals) (size := 2) (bytes := 16) Trip_len Trip_one (by decide) Try.underlying27 hi hz0 hz1 hz2 rfl (by decide) (by rfl) (.tmp 88) (.tmp 91) (by rfl) (wt := wz) ?_ v2 (T ++ [⟨(i : Int), (dd : Int)⟩]) rfl O2 _ (L.length - k) _ D rfl HDl.out ?_ ?_ ?_
                             ((try go_split_ands); assumption)
                             exact news_keep hB2 hgl N2.out
                             exact ins_small (n := L.length) HTl.out (by first | exact HDl.out | (have := HDl.out; omega)) hk hl8
                             intro v3 w3 O3 hB3 nil3 gr3
                             replace nil3 := nil3 nil2)))
                      all_goals
                        obtain ⟨L', hL'⟩ : ∃ L', L' = T ++ [⟨(i : Int), (dd : Int)⟩] ++ D := ⟨_, rfl⟩
                        rw [← hL'] at O3
                        have HP3 : Hid (PartT legs off p u v (DoneS i (dd + 1)) L') := Lib.hid (by rw [hL', HT.out, HD.out]; exact HPU.out)
                        have hl3 : L'.length = L.length + 1 := by rw [hL', List.length_append, List.length_append, HTl.out, HDl.out]; simp only [List.length_singleton]; omega
                        have O4 := O3.mono (base' := W0.heap.size) hBz.size
                        have B4 := chain hBz hB3
                        have HL3 := Lib.hid hl3
                        clear hL' O3 O1 O2 nil2 nil1 hB1 hB2 hB3 gr1 gr2 gr3 hl3
                        go_wp2_with fail
                        go_roundw
                        case rel => exact ⟨dd + 1, L', by omega, by go_num, O4, nil3, B4, HP3, by have := HL3.out; omega⟩
                        case measure => simp [intOf]; omega
          · obtain rfl : dd = 61 := by omega
            have HN := Lib.hid (DoneS.next HP.out)
            clear HP
            go_wp2_with fail
            go_roundw
            case rel => exact ⟨i + 1, L, by omega, by go_num, hO, hne, hB, HN, by omega⟩
            case measure => simp [intOf]; omega
      · obtain rfl : i = legs.length := by omega
        have hi2' : ¬ (legs.length : Int) < (legs.length : Int) := by omega
        have HN := Lib.hid (DoneS.last HP.out)
        have hl9 : L.length ≤ 1220 := by omega
        go_wp2_with fail
        go_ret
        exact ⟨_, L, rfl, hO.mono (by omega), Lib.hid ⟨fun _ => HN.out, fun h => by rw [hnet] at h; exact Bool.noConfusion h⟩, hl9, chain b0 hB⟩
end Go.Proofs.Ytdmeinfdldiegaa
