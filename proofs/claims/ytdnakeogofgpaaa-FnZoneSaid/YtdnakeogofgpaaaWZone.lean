/- The law FnZone walked: it returns true. No condition. -/
import Derived.Test.YtdnakeogofgpaaaDrawZoneOf
import Derived.Test.YtdnakeogofgpaaaZoneLaw
namespace Go.Proofs.Ytdnakeogofgpaaa
open Go.RowKit Go.PlainAid
set_option maxRecDepth 100000
set_option linter.unusedVariables false
set_option maxHeartbeats 6400000 in
theorem walk_Zone (v0 : Value) (w : World) (p0 : VBytes w v0) : Calls Try.prog 3 #[v0] w fun e w' => e = .returned (.bool true) ∧ Below w.heap.size w w' := by
  obtain ⟨cs, hok0, h0⟩ := p0
  by_cases hb : 4096 < (cs.length : Int)
  · have hb' : decide (4096 < (cs.length : Int)) = true := decide_eq_true hb
    go_enter Try.func3, Try.ntmps3
    go_wp2_with (go_at_call 6; refine (big_any0 cs _ _ h0).mono ?_; rintro e w' ⟨rfl, rfl⟩)
    go_ret
    exact ⟨rfl, Below.refl _ _⟩
  have hb' : decide (4096 < (cs.length : Int)) = false := decide_eq_false hb
  go_enter Try.func3, Try.ntmps3
  go_wp2_with (go_at_call 6; refine (big_any0 cs _ _ h0).mono ?_; rintro e w' ⟨rfl, rfl⟩)
  refine (drawZoneOf_any cs _ _ h0).mono ?_
  rintro e w1 ⟨u, zs, p, rfl, h, hl9, hok, hp, b1⟩
  obtain ⟨A, c, rfl, hl, hm⟩ := h.form
  unfold maxLen at hm
  go_wp2_with fail
  refine (zoneOfI zs p _ _ hok hp h).mono ?_
  rintro e w2 ⟨rfl, b2⟩
  have B2 := chain b1 b2
  have h2 := h.keep b2 (Nat.le_refl _)
  go_wp2_with fail
  refine (areZonesI zs _ _ hok h2).mono ?_
  rintro e w3 ⟨rfl, b3⟩
  have B3 := chain B2 b3
  have h3 := h2.keep b3 (Nat.le_refl _)
  cases hz : zonesB zs
  · have HZ : zoneOf zs p = -1 := by unfold zoneOf; rw [hz]; rfl
    rw [HZ]
    go_wp2_with fail
    go_ret
    exact ⟨rfl, B3⟩
  have HZ := Lib.hid hz; clear hz
  obtain ⟨q, hq⟩ : ∃ q, q = zoneOf zs p := ⟨_, rfl⟩
  rw [← hq]
  have HQ := Lib.hid hq; clear hq
  clear b1 b2 b3 B2 h h2
  go_wp2_with fail
  go_loopw [6, 7] (fun n i wr => ∃ (k : Nat) (r : Int), k ≤ zs.length ∧ i = .int .i64 k ∧ n = .int .i64 r ∧ Below w3.heap.size w3 wr ∧ Hid (r = hitsN p zs k)) (fun _ i _ => zs.length - (intOf i).toNat)
  case atStart => exact ⟨0, 0, Nat.zero_le _, rfl, rfl, Below.refl _ _, (hitsN_zero p zs).symm⟩
  case round =>
    obtain ⟨k, r, hk, rfl, rfl, hB, H⟩ := hrel
    by_cases hlt : k < zs.length
    · obtain ⟨b_, off, x, rfl, hb_, hx, hc⟩ := h3.cells hlt
      obtain ⟨f, l⟩ := x
      have c0 : wr.cell? ⟨b_, off + k * 2, none⟩ = some (.string f) := (hB.cell (p := ⟨b_, _, none⟩) hb_).trans (hc 0 _ rfl)
      have c1 : wr.cell? ⟨b_, off + k * 2 + 1, none⟩ = some (.string l) := (hB.cell (p := ⟨b_, _, none⟩) hb_).trans (hc 1 _ rfl)
      clear hc
      have hr := h3.keep hB (Nat.le_refl _)
      have sf : f.size ≤ maxLen ∧ l.size ≤ maxLen := hok _ (mem_of hx.out)
      have ef : zoneOf zs f = (k : Int) := zoneOf_first HZ.out hx.out
      have el : zoneOf zs l = (k : Int) := zoneOf_last HZ.out hx.out
      have CF := zoneOfI zs f _ wr hok sf.1 hr
      rw [ef] at CF
      have CL := fun W (hW : SliceOf W 2 ZoneD.vals (.slice (some ⟨b_, off, none⟩) zs.length c) zs) => zoneOfI zs l _ W hok sf.2 hW
      simp only [el] at CL
      clear ef el
      have hw3 := hB.size
      cases hpl : plc p
      · have H' : Hid (r = hitsN p zs (k + 1)) := Lib.hid (by rw [H.out, hitsN_not hpl, hitsN_not hpl])
        clear H
        go_wp2_with (first | (go_at_call 10; refine (isPlaceI _ _ hp).mono ?_; rintro e w' ⟨rfl, rfl⟩))
        refine CF.mono ?_
        rintro e w4 ⟨rfl, b4⟩
        have B4 := chain hB b4
        have d1 := cell_keep b4 c1
        have r4 := hr.keep b4 (Nat.le_refl _)
        go_wp2_with fail
        refine (CL _ r4).mono ?_
        rintro e w5 ⟨rfl, b5⟩
        have B5 := chain B4 b5
        go_wp2_with fail
        go_roundw
        case rel => exact ⟨k + 1, r, by omega, by go_num, rfl, B5, H'⟩
        case measure => simp [intOf]; omega
      cases hA : (Op.bytesLess f.toList p.toList || f.toList == p.toList)
      · have H' : Hid (r = hitsN p zs (k + 1)) := Lib.hid (by rw [H.out, hitsN_skip hx.out (by unfold inZone lss same; rw [hA]; simp)])
        clear H
        go_wp2_with (first | (go_at_call 10; refine (isPlaceI _ _ hp).mono ?_; rintro e w' ⟨rfl, rfl⟩))
        refine CF.mono ?_
        rintro e w4 ⟨rfl, b4⟩
        have B4 := chain hB b4
        have d1 := cell_keep b4 c1
        have r4 := hr.keep b4 (Nat.le_refl _)
        go_wp2_with fail
        refine (CL _ r4).mono ?_
        rintro e w5 ⟨rfl, b5⟩
        have B5 := chain B4 b5
        go_wp2_with fail
        go_roundw
        case rel => exact ⟨k + 1, r, by omega, by go_num, rfl, B5, H'⟩
        case measure => simp [intOf]; omega
      cases hC : (Op.bytesLess p.toList l.toList || p.toList == l.toList)
      · have H' : Hid (r = hitsN p zs (k + 1)) := Lib.hid (by rw [H.out, hitsN_skip hx.out (by unfold inZone lss same; rw [hC]; simp)])
        clear H
        go_wp2_with (first | (go_at_call 10; refine (isPlaceI _ _ hp).mono ?_; rintro e w' ⟨rfl, rfl⟩))
        refine CF.mono ?_
        rintro e w4 ⟨rfl, b4⟩
        have B4 := chain hB b4
        have d1 := cell_keep b4 c1
        have r4 := hr.keep b4 (Nat.le_refl _)
        go_wp2_with fail
        refine (CL _ r4).mono ?_
        rintro e w5 ⟨rfl, b5⟩
        have B5 := chain B4 b5
        go_wp2_with fail
        go_roundw
        case rel => exact ⟨k + 1, r, by omega, by go_num, rfl, B5, H'⟩
        case measure => simp [intOf]; omega
      have hin : inZone p ⟨f, l⟩ = true := by unfold inZone lss same; rw [hA, hC]; rfl
      obtain ⟨g0, g1⟩ := hitsN_hit HZ.out hpl hx.out hin
      obtain rfl : r = 0 := H.out.trans g0
      obtain rfl : q = (k : Int) := HQ.out.trans (zoneOf_in HZ.out hpl hx.out hin)
      have G1 := Lib.hid g1; clear g0 g1 hin
      have H' : Hid (1 = hitsN p zs (k + 1)) := Lib.hid (G1.out.symm)
      clear H
      go_wp2_with (first | (go_at_call 10; refine (isPlaceI _ _ hp).mono ?_; rintro e w' ⟨rfl, rfl⟩))
      refine CF.mono ?_
      rintro e w4 ⟨rfl, b4⟩
      have B4 := chain hB b4
      have d1 := cell_keep b4 c1
      have r4 := hr.keep b4 (Nat.le_refl _)
      go_wp2_with fail
      refine (CL _ r4).mono ?_
      rintro e w5 ⟨rfl, b5⟩
      have B5 := chain B4 b5
      go_wp2_with fail
      go_roundw
      case rel => exact ⟨k + 1, 1, by omega, by go_num, rfl, B5, H'⟩
      case measure => simp [intOf]; omega
    · obtain rfl : k = zs.length := by omega
      rcases hitsN_end HZ.out p with e1 | ⟨e1, e2⟩
      · obtain rfl : r = 1 := H.out.trans e1
        go_wp2_with fail
        go_ret
        exact ⟨rfl, chain B3 hB⟩
      · obtain rfl : r = 0 := H.out.trans e1
        obtain rfl : q = -1 := HQ.out.trans e2
        go_wp2_with fail
        go_ret
        exact ⟨rfl, chain B3 hB⟩
end Go.Proofs.Ytdnakeogofgpaaa
