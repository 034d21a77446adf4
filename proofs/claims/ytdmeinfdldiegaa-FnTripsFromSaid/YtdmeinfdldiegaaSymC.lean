/- The library's merge of two parts in place, where both have more than one element. No condition. -/
import Derived.Test.YtdmeinfdldiegaaStableW
import Derived.Deep.DeepCutAuto
namespace Go.Proofs.Ytdmeinfdldiegaa
open Go.RowKit Go.PlainAid Go.Shelf
open SB
set_option maxRecDepth 100000
set_option linter.unusedVariables false
variable {α : Type}
theorem merge_at {lt : α → α → Bool} (O : Ord lt) {d d1 f g : Nat → α} {a m b s e mid : Nat} (c : Cut lt d a m b s e) (h1 : Srt lt d a m) (h2 : Srt lt d m b) (he : e = mid + m - s) (hd : d1 = Rot s m e d) (hf : Srt lt f a mid ∧ Mv a mid d1 f) (hg : Srt lt g mid b ∧ Mv mid b f g) : Srt lt g a b ∧ Mv a b d g := by
  have hm : s + (e - m) = mid := by have := c.me; have := c.sm; omega
  subst hd
  rw [← hm] at hf hg
  exact merge_join O c h1 h2 hf.2 hf.1 hg.2 hg.1
set_option maxHeartbeats 3200000 in
theorem symC {g sf : Nat} {lb sb : Array Value} {lt : α → α → Bool} {n row : Nat} {St : World → (Nat → α) → Prop} (E : SEnv g sf lb sb lt n row St) (O : Ord lt) (hn : n < 1099511627776) (sz : Nat) (ih : ∀ (a m b : Nat) (x y z : Int), x = (a : Int) → y = (m : Int) → z = (b : Int) → ∀ (w : World) (d : Nat → α), St w d → b - a ≤ sz → a < m → m < b → b ≤ n → Hid (Srt lt d a m ∧ Srt lt d m b) →
    Calls Try.prog 75 #[.agg #[.func (.func g) #[] lb, .func (.func sf) #[] sb], .int .i64 x, .int .i64 y, .int .i64 z] w (SPostS row St (fun d' => Srt lt d' a b ∧ Mv a b d d') w)) (a m b : Nat) (w : World) (d : Nat → α) (h : St w d) (h1 : a < m) (h2 : m < b) (h3 : b ≤ n) (HSS : Hid (Srt lt d a m ∧ Srt lt d m b)) (hs : b - a ≤ sz + 1) (hA : ¬ m - a = 1) (hB : ¬ b - m = 1) :
    Calls Try.prog 75 #[.agg #[.func (.func g) #[] lb, .func (.func sf) #[] sb], .int .i64 (a : Int), .int .i64 (m : Int), .int .i64 (b : Int)] w (SPostS row St (fun d' => Srt lt d' a b ∧ Mv a b d d') w) := by
  have hrow := E.lt_ h
  have b0 : Below w.heap.size w (w.alloc (.cells #[.func (.func g) #[] lb, .func (.func sf) #[] sb] 86)) := (Below.refl _ _).alloc (Nat.le_refl _) _
  have hS := E.keep h b0
  have hR := Lib.hid E
  have HO := Lib.hid O
  have eg := E.enter
  have hGr := gr_below (gr_refl w row) b0
  have IH := Lib.hid ih
  clear ih
  have tA : ((m : Int) - (a : Int) == 1) = false := by simp; omega
  have tB : ((b : Int) - (m : Int) == 1) = false := by simp; omega
  obtain ⟨mid, hmid⟩ : ∃ mid : Nat, mid = (a + b) / 2 := ⟨_, rfl⟩
  have hmid' : ((a : Int) + (b : Int)) / 2 = (mid : Int) := by omega
  have mid0 : a < mid := by omega
  have mid1 : mid < b := by omega
  have HMID := Lib.hid hmid; clear hmid
  go_enter Try.func75, Try.ntmps75
  go_upto_if 106 with fail
  obtain ⟨W, hW⟩ : ∃ W, W = w.alloc (.cells #[.func (.func g) #[] lb, .func (.func sf) #[] sb] 86) := ⟨_, rfl⟩
  rw [← hW] at hS hGr ⊢
  have c0 : W.cell? ⟨w.heap.size, 0, none⟩ = some (.func (.func g) #[] lb) := by rw [hW]; simp [go_sem]
  have c1 : W.cell? ⟨w.heap.size, 1, none⟩ = some (.func (.func sf) #[] sb) := by rw [hW]; simp [go_sem]
  clear hW b0
  go_cut [18, 19] from 23 (fun sv rv wx => wx = W ∧ ∃ (s0 r0 : Nat), sv = .int .i64 s0 ∧ rv = .int .i64 r0 ∧ a ≤ s0 ∧ s0 ≤ r0 ∧ r0 ≤ m ∧ r0 ≤ mid ∧ mid + m - s0 ≤ b ∧ Hid ((s0 = a ∨ mid + m - s0 = b) ∧ (r0 = m ∨ r0 = mid)))
  case first =>
    by_cases hmm : mid < m
    · have hmm' : (mid : Int) < (m : Int) := by omega
      go_wp2_with fail
      go_meet
      case rel => exact ⟨rfl, mid + m - b, mid, by have := HMID.out; congr 1; omega, rfl, by have := HMID.out; omega, by omega, by omega, by omega, by omega, Lib.hid ⟨by omega, by omega⟩⟩
    · have hmm' : ¬ (mid : Int) < (m : Int) := by omega
      go_wp2_with fail
      go_meet
      case rel => exact ⟨rfl, a, m, rfl, rfl, by omega, by omega, by omega, by omega, by have := HMID.out; omega, Lib.hid ⟨by omega, by omega⟩⟩
  case rest =>
    obtain ⟨rfl, s0, r0, rfl, rfl, f1, f2, f3, f4, f5, HF0⟩ := hcut
    go_wp2_with fail
    go_loopw [18, 19, 21] (fun iv jv _ wr => ∃ (s r : Nat), s0 ≤ s ∧ s ≤ r ∧ r ≤ r0 ∧ iv = .int .i64 s ∧ jv = .int .i64 r ∧ St wr d ∧ Hid ((s0 < s → lt (d (mid + m - s)) (d (s - 1)) = false) ∧ (r < r0 → lt (d (mid + m - 1 - r)) (d r) = true)) ∧ wr.cell? ⟨w.heap.size, 0, none⟩ = some (.func (.func g) #[] lb) ∧ wr.cell? ⟨w.heap.size, 1, none⟩ = some (.func (.func sf) #[] sb) ∧ w.grownBy wr (some row)) (fun iv jv _ _ => (intOf jv).toNat - (intOf iv).toNat)
    case atStart => exact ⟨s0, r0, Nat.le_refl _, f2, Nat.le_refl _, rfl, rfl, hS, Lib.hid ⟨fun h => by omega, fun h => by omega⟩, c0, c1, hGr⟩
    case round =>
      clear c0 c1 hGr hS
      obtain ⟨s, r, i0, i1, i2, rfl, rfl, hW, HJ, c0, c1, hG⟩ := hrel
      by_cases hij : s < r
      · have hij' : (s : Int) < (r : Int) := by omega
        obtain ⟨k, hk⟩ : ∃ k : Nat, k = (s + r) / 2 := ⟨_, rfl⟩
        have k0 : s ≤ k := by omega
        have k1 : k < r := by omega
        have hl := hR.out.less (w := wr) (mid + m - 1 - k) k ((mid : Int) + (m : Int) - 1 - ((s : Int) + (r : Int)) / 2) (((s : Int) + (r : Int)) / 2) (by omega) (by omega) hW (by omega) (by omega)
        cases hlv : lt (d (mid + m - 1 - k)) (d k)
        · rw [hlv] at hl
          have HLV := Lib.hid hlv; clear hlv
          go_wp2_with fail
          refine hl.mono ?_
          rintro e' w' ⟨rfl, hb⟩
          clear hl
          go_wp2_with fail
          go_roundw
          case rel => exact ⟨k + 1, r, by omega, by omega, i2, by congr 1; omega, rfl, hR.out.keep hW hb, Lib.hid ⟨fun _ => by rw [show mid + m - (k + 1) = mid + m - 1 - k by omega]; exact HLV.out, HJ.out.2⟩, cell_keep hb c0, cell_keep hb c1, gr_below hG hb⟩
          case measure => simp [intOf]; omega
        · rw [hlv] at hl
          have HLV := Lib.hid hlv; clear hlv
          go_wp2_with fail
          refine hl.mono ?_
          rintro e' w' ⟨rfl, hb⟩
          clear hl
          go_wp2_with fail
          go_roundw
          case rel => exact ⟨s, k, i0, k0, by omega, rfl, by congr 1; omega, hR.out.keep hW hb, Lib.hid ⟨HJ.out.1, fun _ => HLV.out⟩, cell_keep hb c0, cell_keep hb c1, gr_below hG hb⟩
          case measure => simp [intOf]; omega
      · obtain rfl : s = r := by omega
        have hij' : ¬ (s : Int) < (s : Int) := by omega
        obtain ⟨e, he⟩ : ∃ e : Nat, e = mid + m - s := ⟨_, rfl⟩
        have HE := Lib.hid he
        have cut : Cut lt d a m b s e := ⟨by omega, by omega, by omega, by omega, fun p1 p2 => by
          have h := HJ.out.1 (by have := HF0.out; omega)
          rwa [← he] at h, fun p1 p2 => by
          have h := HJ.out.2 (by have := HF0.out; omega)
          rwa [show mid + m - 1 - s = e - 1 by omega] at h⟩
        have CUT := Lib.hid cut
        have sm : s ≤ mid := by omega
        have sb2 : s ≤ m := by omega
        have e0 : m ≤ e := by omega
        have e1 : e ≤ b := by omega
        have e2 : mid ≤ e := by omega
        clear he cut HJ HF0 f1 f2 f3 f4 f5 i0 i2
        have HAM : Hid (s + (e - m) = mid) := Lib.hid (by have := HE.out; omega)
        have as0 : a ≤ s := CUT.out.as
        go_upto_region 40 with fail
        go_cut [22, 145] from 23 (fun ev t wx => ev = .int .i64 (e : Int) ∧ t = .bool (decide (s < m ∧ m < e)) ∧ wx = wr)
        case first =>
          have or5 : ¬ (s : Int) < (m : Int) ∨ ((s : Int) < (m : Int) ∧ ¬ (m : Int) < (mid : Int) + (m : Int) - (s : Int)) ∨ ((s : Int) < (m : Int) ∧ (m : Int) < (mid : Int) + (m : Int) - (s : Int)) := by omega
          rcases or5 with t5 | ⟨t5, t6⟩ | ⟨t5, t6⟩
          all_goals
            go_wp2_with fail
            go_meet
            case rel => exact ⟨by have := HE.out; congr 1; omega, by have := HE.out; congr 1; symm; (first | (apply decide_eq_true; omega) | (apply decide_eq_false; omega)), rfl⟩
        case rest =>
        obtain ⟨rfl, rfl, rfl⟩ := hcut
        go_upto_if 145 with fail
        go_cut [] from 23 (fun wx => ∃ d1, St wx d1 ∧ Hid (d1 = Rot s m e d) ∧ wx.cell? ⟨w.heap.size, 0, none⟩ = some (.func (.func g) #[] lb) ∧ wx.cell? ⟨w.heap.size, 1, none⟩ = some (.func (.func sf) #[] sb) ∧ w.grownBy wx (some row))
        case first =>
          by_cases R1 : s < m ∧ m < e
          · have hd : decide (s < m ∧ m < e) = true := decide_eq_true R1
            go_wp2_with fail
            refine (rotate_any hR.out s m e _ _ _ rfl rfl rfl _ d hW R1.1 R1.2 (by omega) hn).mono ?_
            rintro e1 w2 ⟨d1, rfl, hS1, HROT, hg2⟩
            go_wp2_with fail
            go_meet
            case rel => exact ⟨d1, hS1, HROT, gr_cell hg2 c0 (by simp only; omega), gr_cell hg2 c1 (by simp only; omega), gr_trans hG hg2⟩
          · have hd : decide (s < m ∧ m < e) = false := decide_eq_false R1
            go_wp2_with fail
            go_meet
            case rel => exact ⟨d, hW, Lib.hid (Rot.none d CUT.out.sm CUT.out.me R1).symm, c0, c1, hG⟩
        case rest =>
        clear hW c0 c1 hG
        obtain ⟨d1, hS1, HROT, q0, q1, hG1⟩ := hcut
        obtain ⟨u1, u2, u3, u4⟩ := rot_parts (lt := lt) (d := d) (a := a) (m := m) (b := b) (s := s) (e := e) CUT.out.sm CUT.out.me CUT.out.eb CUT.out.as HSS.out.1 HSS.out.2
        rw [HAM.out, ← HROT.out] at u2 u3
        rw [← HROT.out] at u1 u4
        have U := Lib.hid (And.intro u1 (And.intro u2 (And.intro u3 u4)))
        clear u1 u2 u3 u4
        go_upto_region 42 with fail
        go_cut [158] from 23 (fun t wx => t = .bool (decide (a < s ∧ s < mid)) ∧ wx = wc)
        case first =>
          have or1 : ¬ (a : Int) < (s : Int) ∨ ((a : Int) < (s : Int) ∧ ¬ (s : Int) < (mid : Int)) ∨ ((a : Int) < (s : Int) ∧ (s : Int) < (mid : Int)) := by omega
          rcases or1 with t5 | ⟨t5, t6⟩ | ⟨t5, t6⟩
          all_goals
            go_wp2_with fail
            go_meet
            case rel => exact ⟨by congr 1; symm; (first | (apply decide_eq_true; omega) | (apply decide_eq_false; omega)), rfl⟩
        case rest =>
        obtain ⟨rfl, rfl⟩ := hcut
        go_upto_if 158 with fail
        go_cut [] from 23 (fun wx => ∃ d2, St wx d2 ∧ Hid (Srt lt d2 a mid ∧ Mv a mid d1 d2) ∧ wx.cell? ⟨w.heap.size, 0, none⟩ = some (.func (.func g) #[] lb) ∧ wx.cell? ⟨w.heap.size, 1, none⟩ = some (.func (.func sf) #[] sb) ∧ w.grownBy wx (some row))
        case first =>
          by_cases A1 : a < s ∧ s < mid
          · have hd : decide (a < s ∧ s < mid) = true := decide_eq_true A1
            go_wp2_with fail
            refine (IH.out a s mid _ _ _ rfl rfl rfl _ d1 hS1 (by omega) A1.1 A1.2 (by omega) (Lib.hid ⟨U.out.1, U.out.2.1⟩)).mono ?_
            rintro e1 w3 ⟨d2, rfl, hS3, HF, hg3⟩
            go_wp2_with fail
            go_meet
            case rel => exact ⟨d2, hS3, HF, gr_cell hg3 q0 (by simp only; omega), gr_cell hg3 q1 (by simp only; omega), gr_trans hG1 hg3⟩
          · have hd : decide (a < s ∧ s < mid) = false := decide_eq_false A1
            go_wp2_with fail
            go_meet
            case rel =>
              exact ⟨d1, hS1, Lib.hid ⟨by
              by_cases q : a < s
              · have e1 : s = mid := by omega
                rw [← e1]; exact U.out.1
              · have e1 : s = a := by omega
                rw [← e1]; exact U.out.2.1, Mv.refl _ _ _⟩, q0, q1, hG1⟩
        case rest =>
        clear hS1 q0 q1 hG1
        obtain ⟨d2, hS3, HF, k0, k1, hG3⟩ := hcut
        have V : Hid (Srt lt d2 mid e ∧ Srt lt d2 e b) := Lib.hid ⟨U.out.2.2.1.congr fun k k1 k2 => HF.out.2.out (by omega), U.out.2.2.2.congr fun k k1 k2 => HF.out.2.out (by omega)⟩
        by_cases A2 : mid < e ∧ e < b
        · have t3 : (mid : Int) < (e : Int) := by omega
          have t4 : (e : Int) < (b : Int) := by omega
          go_wp2_with fail
          refine (IH.out mid e b _ _ _ rfl rfl rfl _ d2 hS3 (by omega) A2.1 A2.2 h3 V).mono ?_
          rintro e1 w4 ⟨d3, rfl, hS4, HF2, hg4⟩
          have hG4 := gr_trans hG3 hg4
          go_wp2_with fail
          go_end0
          exact ⟨d3, rfl, hS4, Lib.hid (merge_at HO.out CUT.out HSS.out.1 HSS.out.2 HE.out HROT.out HF.out HF2.out), hG4⟩
        · have HF2 : Hid (Srt lt d2 mid b ∧ Mv mid b d2 d2) := Lib.hid ⟨by
            by_cases q : mid < e
            · have e1 : e = b := by omega
              rw [← e1]; exact V.out.1
            · have e1 : e = mid := by omega
              rw [← e1]; exact V.out.2, Mv.refl _ _ _⟩
          have or2 : ¬ (mid : Int) < (e : Int) ∨ ((mid : Int) < (e : Int) ∧ ¬ (e : Int) < (b : Int)) := by omega
          rcases or2 with t3 | ⟨t3, t4⟩
          all_goals
            go_wp2_with fail
            go_end0
            exact ⟨d2, rfl, hS3, Lib.hid (merge_at HO.out CUT.out HSS.out.1 HSS.out.2 HE.out HROT.out HF.out HF2.out), hG3⟩
end Go.Proofs.Ytdmeinfdldiegaa
