/- The library's sort: pdqsort puts a range in order. No condition. -/
import Derived.Test.YthpgnlmkgllonaaPdqB
import Derived.Test.YthpgnlmkgllonaaPdqC
import Derived.Test.YthpgnlmkgllonaaPdqE
import Derived.Deep.DeepCutAuto
namespace Go.Proofs.Ythpgnlmkgllonaa
open Go.RowKit Go.PlainAid
open SB
set_option maxRecDepth 100000
set_option linter.unusedVariables false
variable {α : Type}
theorem spost_mono {row : Nat} {St : World → (Nat → α) → Prop} {w : World} {R R' : (Nat → α) → Prop} (h : ∀ d, R d → R' d) {f : FuncId} {args : Array Value} (c : Calls Try.prog f args w (SPostS row St R w)) : Calls Try.prog f args w (SPostS row St R' w) :=
  c.mono fun e w' ⟨d', h1, h2, h3, h4⟩ => ⟨d', h1, h2, Lib.hid (h _ h3.out), h4⟩
set_option maxHeartbeats 12800000 in
theorem pdq_step {bs B : Nat} {rl rs : Value} {lt : α → α → Bool} {n row : Nat} {St : World → (Nat → α) → Prop} (E : REnv bs B rl rs lt n row St) (O : Ord lt) (irr : ∀ x, lt x x = false) (hn : n < 1099511627776) (sz : Nat) (ih : ∀ (a b : Nat) (x y z : Int), x = (a : Int) → y = (b : Int) → 0 ≤ z → z ≤ 64 → ∀ (w : World) (d : Nat → α), St w d → b - a < sz → a ≤ b → b ≤ n → Hid (SB.Left lt d a b) →
    Calls Try.prog 14 #[.iface 36 (.pointer (some ⟨B, 0, none⟩)), .int .i64 x, .int .i64 y, .int .i64 z] w (SPostS row St (fun d' => Srt lt d' a b ∧ Mv a b d d') w))
    (a b : Nat) (z : Int) (z0 : 0 ≤ z) (z1 : z ≤ 64) (w : World) (d : Nat → α) (h : St w d) (hs : b - a < sz + 1) (h1 : a ≤ b) (h2 : b ≤ n) (HL : Hid (SB.Left lt d a b)) :
    Calls Try.prog 14 #[.iface 36 (.pointer (some ⟨B, 0, none⟩)), .int .i64 (a : Int), .int .i64 (b : Int), .int .i64 z] w (SPostS row St (fun d' => Srt lt d' a b ∧ Mv a b d d') w) := by
  have hR := Lib.hid E
  have HO := Lib.hid O
  have HI := Lib.hid irr
  have IH := Lib.hid ih
  clear ih
  obtain ⟨a0, ha0⟩ : ∃ a0 : Nat, a0 = a := ⟨_, rfl⟩
  obtain ⟨b0, hb0⟩ : ∃ b0 : Nat, b0 = b := ⟨_, rfl⟩
  have hT : Hid (Todo lt a0 b0 a b d ∧ Mv a0 b0 d d ∧ SB.Left lt d a b) := Lib.hid (by rw [ha0, hb0]; exact ⟨Todo.all a b d, Mv.refl _ _ _, HL.out⟩)
  have hs0 : b - a ≤ b0 - a0 := by omega
  rw [← ha0, ← hb0]
  have HAB := Lib.hid (show b0 - a0 < sz + 1 by omega)
  obtain ⟨x, hx⟩ : ∃ x : Int, x = (a0 : Int) := ⟨_, rfl⟩
  obtain ⟨y, hy⟩ : ∃ y : Int, y = (b0 : Int) := ⟨_, rfl⟩
  have hxa : x = (a : Int) := by omega
  have hyb : y = (b : Int) := by omega
  rw [← hx, ← hy]
  have HX := Lib.hid hxa; have HY := Lib.hid hyb
  clear hx hy hxa hyb ha0 hb0
  go_enter Try.func14, Try.ntmps14
  go_wp2_with fail
  go_loopw [1, 2, 3, 8, 9, 10, 11, 12, 13, 14, 15, 16, 17, 18] (fun av bv zv tv pv _ _ _ _ _ _ _ _ _ wr => ∃ (a b : Nat) (z : Int) (t p : Bool) (e : Nat → α), a ≤ b ∧ b ≤ n ∧ 0 ≤ z ∧ z ≤ 64 ∧ b - a ≤ b0 - a0 ∧ av = .int .i64 (a : Int) ∧ bv = .int .i64 (b : Int) ∧ zv = .int .i64 z ∧ tv = .bool t ∧ pv = .bool p ∧ St wr e ∧ Hid (Todo lt a0 b0 a b e ∧ Mv a0 b0 d e ∧ SB.Left lt e a b) ∧ w.grownBy wr (some row)) (fun av bv _ _ _ _ _ _ _ _ _ _ _ _ _ => (intOf bv).toNat - (intOf av).toNat)
  case atStart => exact ⟨a, b, z, true, true, d, h1, h2, z0, z1, hs0, by rw [HX.out], by rw [HY.out], rfl, rfl, rfl, h, hT, gr_refl w row⟩
  case round =>
    clear h hT h1 h2 z0 z1 hs0 HX HY hs HL
    clear a b z
    obtain ⟨a, b, z, t, p, e, ab, bn, z0, z1, hlen, rfl, rfl, rfl, rfl, rfl, hW, HT, hG⟩ := hrel
    have fin : ∀ f, Srt lt f a b → Mv a b e f → Hid (Srt lt f a0 b0 ∧ Mv a0 b0 d f) := fun f s m => Lib.hid ⟨HT.out.1.2.2 f m s, HT.out.2.1.trans (m.mono HT.out.1.1 HT.out.1.2.1)⟩
    have FIN := Lib.hid fin; clear fin
    by_cases h12 : b ≤ a + 12
    · have h12' : (b : Int) - (a : Int) ≤ 12 := by omega
      go_wp2_with fail
      refine (insertion_r hR.out HO.out HI.out a b _ _ rfl rfl _ e hW ab bn hn).mono ?_
      rintro e1 w1 ⟨d1, rfl, hS1, HD, hg1⟩
      go_wp2_with fail
      (try simp only [Exit.inBlock, Exit.then])
      refine bodyPost_ret (results_none rfl _ _ _) rfl ?_
      exact ⟨d1, rfl, hS1, FIN.out d1 HD.out.1 HD.out.2, gr_trans hG hg1⟩
    · have h12' : ¬ (b : Int) - (a : Int) ≤ 12 := by omega
      by_cases hz : z = 0
      · subst hz
        go_wp2_with fail
        refine (heapSort_r hR.out HO.out HI.out a b _ _ rfl rfl _ e hW (by omega) bn hn).mono ?_
        rintro e1 w1 ⟨d1, rfl, hS1, HD, hg1⟩
        go_wp2_with fail
        (try simp only [Exit.inBlock, Exit.then])
        refine bodyPost_ret (results_none rfl _ _ _) rfl ?_
        exact ⟨d1, rfl, hS1, FIN.out d1 HD.out.1 HD.out.2, gr_trans hG hg1⟩
      · have hz' : (z == 0) = false := by simp [hz]
        have z2 : 1 ≤ z := by omega
        clear FIN
        go_upto_if 35 with fail
        go_cut [3] (fun zv wx => ∃ (z : Int) (f : Nat → α), zv = .int .i64 z ∧ 0 ≤ z ∧ z ≤ 64 ∧ St wx f ∧ Hid (Todo lt a0 b0 a b f ∧ Mv a0 b0 d f ∧ SB.Left lt f a b) ∧ w.grownBy wx (some row))
        case first =>
          cases t
          · go_wp2_with fail
            refine (break_r hR.out hn a b _ _ rfl rfl _ e hW (by omega) bn).mono ?_
            rintro e1 w1 ⟨d1, rfl, hS1, HD, hg1⟩
            go_wp2_with fail
            go_meet
            case rel => exact ⟨z - 1, d1, rfl, by omega, by omega, hS1, Lib.hid ⟨HT.out.1.mv HD.out, HT.out.2.1.trans (HD.out.mono HT.out.1.1 HT.out.1.2.1), HT.out.2.2.mv HD.out⟩, gr_trans hG hg1⟩
          · go_wp2_with fail
            go_meet
            case rel => exact ⟨z, e, rfl, z0, z1, hW, HT, hG⟩
        case rest =>
        clear z0 z1 z2 hz hz' hW HT hG
        obtain ⟨z, f, rfl, z0, z1, hW, HT, hG⟩ := hcut
        go_wp2_with fail
        refine (choose_r hR.out hn a b _ _ rfl rfl _ f hW (by omega) bn).mono ?_
        rintro e1 w1 ⟨pi, tt, rfl, p1, p2, ht, b1⟩
        replace hW := hR.out.keep hW b1
        replace hG := gr_below hG b1
        clear b1
        have hta : a0 ≤ a := HT.out.1.1
        have htb : b ≤ b0 := HT.out.1.2.1
        go_upto_if 50 with fail
        go_cut [11, 12] (fun pv hv wx => ∃ (pi : Nat) (tt : Int) (f : Nat → α), pv = .int .i64 (pi : Int) ∧ hv = .int .i64 tt ∧ a ≤ pi ∧ pi < b ∧ (tt = 0 ∨ tt = 1) ∧ St wx f ∧ Hid (Todo lt a0 b0 a b f ∧ Mv a0 b0 d f ∧ SB.Left lt f a b) ∧ w.grownBy wx (some row))
        case first =>
          rcases ht with rfl | rfl | rfl
          · go_wp2_with fail
            go_meet
            case rel => exact ⟨pi, 0, f, rfl, rfl, p1, p2, .inl rfl, hW, HT, hG⟩
          · go_wp2_with fail
            go_meet
            case rel => exact ⟨pi, 1, f, rfl, rfl, p1, p2, .inr rfl, hW, HT, hG⟩
          · go_wp2_with fail
            refine (reverse_r hR.out a b _ _ rfl rfl _ f hW (by omega) bn hn).mono ?_
            rintro e1 w2 ⟨d1, rfl, hS1, HD, hg1⟩
            go_wp2_with fail
            go_meet
            case rel => exact ⟨b - 1 - (pi - a), 1, d1, by congr 1 <;> omega, rfl, by omega, by omega, .inr rfl, hS1, Lib.hid ⟨HT.out.1.mv HD.out, HT.out.2.1.trans (HD.out.mono hta htb), HT.out.2.2.mv HD.out⟩, gr_trans hG hg1⟩
        case rest =>
        clear p1 p2 ht hW HT hG
        obtain ⟨pi, tt, f, rfl, rfl, p1, p2, ht, hW, HT, hG⟩ := hcut
        obtain ⟨wq, rfl⟩ : ∃ wq : World, wq = wc := ⟨_, rfl⟩
        go_upto_region 15 with fail
        go_cut [68] (fun cv wx => cv = .bool (t && p && (tt == 1)) ∧ wx = wq)
        case first =>
          cases t
          · go_wp2_with fail
            go_meet
            case rel => exact ⟨rfl, rfl⟩
          cases p
          · go_wp2_with fail
            go_meet
            case rel => exact ⟨rfl, rfl⟩
          rcases ht with rfl | rfl
          · go_wp2_with fail
            go_meet
            case rel => exact ⟨rfl, rfl⟩
          · go_wp2_with fail
            go_meet
            case rel => exact ⟨rfl, rfl⟩
        case rest =>
        obtain ⟨rfl, rfl⟩ := hcut
        go_upto_if 68 with fail
        go_cut [] (fun wx => ∃ f, St wx f ∧ Hid (Todo lt a0 b0 a b f ∧ Mv a0 b0 d f ∧ SB.Left lt f a b) ∧ w.grownBy wx (some row))
        case first =>
          cases hcd : (t && p && (tt == 1))
          · go_wp2_with fail
            go_meet
            case rel => exact ⟨f, hW, HT, hG⟩
          · go_wp2_with fail
            refine (partial_r hR.out HO.out a b _ _ rfl rfl _ f hW (by omega) bn hn (Lib.hid HT.out.2.2)).mono ?_
            rintro e1 w2 ⟨d1, v1, rfl, hS1, HD, hg1⟩
            have HD2 := HD.out
            obtain ⟨hm1, r, rfl, hr⟩ := HD2
            have HM := Lib.hid hm1; have HRR := Lib.hid hr; clear HD hm1 hr
            cases r
            · go_wp2_with fail
              go_meet
              case rel => exact ⟨d1, hS1, Lib.hid ⟨HT.out.1.mv HM.out, HT.out.2.1.trans (HM.out.mono hta htb), HT.out.2.2.mv HM.out⟩, gr_trans hG hg1⟩
            · go_wp2_with fail
              (try simp only [Exit.inBlock, Exit.then])
              refine bodyPost_ret (results_none rfl _ _ _) rfl ?_
              exact ⟨d1, rfl, hS1, Lib.hid ⟨HT.out.1.2.2 d1 HM.out (by first | exact HRR.out rfl | exact HRR.out trivial | exact HRR.out), HT.out.2.1.trans (HM.out.mono hta htb)⟩, gr_trans hG hg1⟩
        case rest =>
        clear hW HT hG
        obtain ⟨f, hW, HT, hG⟩ := hcut
        by_cases ha : 0 < a
        · have ha' : (0 : Int) < (a : Int) := by omega
          have ml := hR.out.mless hW
          have hl := hR.out.less (w := wc) (a - 1) pi ((a : Int) - 1) (pi : Int) (by omega) rfl hW (by omega) (by omega)
          cases hlv : lt (f (a - 1)) (f pi)
          · rw [hlv] at hl
            have HLV := Lib.hid hlv; clear hlv
            go_wp2_with fail
            refine hl.mono ?_
            rintro e1 w2 ⟨rfl, b2⟩
            clear hl ml
            replace hW := hR.out.keep hW b2
            replace hG := gr_below hG b2
            clear b2
            go_wp2_with fail
            refine (equal_r hR.out HO.out HI.out a b pi _ _ _ rfl rfl rfl _ f hW p1 p2 bn hn).mono ?_
            rintro e1 w3 ⟨d1, v1, rfl, hS1, HD, hg1⟩
            have HD2 := HD.out
            obtain ⟨m, rfl, am, mb, hm1, hal⟩ := HD2
            have HM := Lib.hid hm1; have HAL := Lib.hid hal; clear HD hm1 hal
            have NEW : Hid (Todo lt a0 b0 m b d1 ∧ Mv a0 b0 d d1 ∧ SB.Left lt d1 m b) := Lib.hid (by
              have hT1 := HT.out.1.mv HM.out
              have hL1 := HT.out.2.2.mv HM.out
              have hl1 : ∀ k, a ≤ k → k < b → lt (d1 k) (f pi) = false := fun k k1 k2 => by
                rcases hL1 with q | q
                · omega
                · have q1 := q k k1 k2
                  rw [HM.out.out (k := a - 1) (by omega)] at q1
                  exact HO.out.trans _ _ _ HLV.out q1
              exact ⟨hT1.alike HO.out HAL.out hl1 am mb, HT.out.2.1.trans (HM.out.mono hta htb), HAL.out.left HO.out am⟩)
            go_wp2_with fail
            go_roundw
            case rel => first | exact ⟨m, b, z, t, p, d1, mb, bn, z0, z1, by omega, rfl, rfl, rfl, rfl, rfl, hS1, NEW, gr_trans hG hg1⟩ | ((repeat apply Exists.intro); exact ⟨⟨m, b, z, t, p, d1, mb, bn, z0, z1, by omega, rfl, rfl, rfl, rfl, rfl, hS1, NEW, gr_trans hG hg1⟩, rfl⟩)
            case measure => simp [intOf] <;> omega
          · rw [hlv] at hl
            clear hlv
            go_wp2_with fail
            refine hl.mono ?_
            rintro e1 w2 ⟨rfl, b2⟩
            clear hl ml
            replace hW := hR.out.keep hW b2
            replace hG := gr_below hG b2
            clear b2
            go_wp2_with fail
            refine (part_r hR.out HO.out HI.out a b pi _ _ _ rfl rfl rfl _ f hW p1 p2 bn hn).mono ?_
            rintro e1 w3 ⟨d1, v1, rfl, hS1, HD, hg1⟩
            have HD2 := HD.out
            obtain ⟨m, t2, rfl, am, mb, hm1, hpt⟩ := HD2
            have HM := Lib.hid hm1; have HPT := Lib.hid hpt; clear HD hm1 hpt
            have HT1 : Hid (Todo lt a0 b0 a b d1 ∧ Mv a0 b0 d d1 ∧ SB.Left lt d1 a b) := Lib.hid ⟨HT.out.1.mv HM.out, HT.out.2.1.trans (HM.out.mono hta htb), HT.out.2.2.mv HM.out⟩
            have hG1 := gr_trans hG hg1
            clear hW hG hg1 HM HT
            by_cases hlr : (m : Int) - (a : Int) < (b : Int) - (m : Int)
            · go_wp2_with fail
              refine (IH.out a m _ _ _ rfl rfl z0 z1 _ d1 hS1 (by have := HAB.out; omega) am (by omega) (Lib.hid (HT1.out.2.2.sub (by omega)))).mono ?_
              rintro e1 w4 ⟨d2, rfl, hS2, HD, hg2⟩
              have NEW : Hid (Todo lt a0 b0 (m + 1) b d2 ∧ Mv a0 b0 d d2 ∧ SB.Left lt d2 (m + 1) b) := Lib.hid (by
                have hP := HPT.out.mvL HD.out.2
                exact ⟨(HT1.out.1.mv (HD.out.2.mono (Nat.le_refl _) (by omega))).right HO.out hP am mb HD.out.1, HT1.out.2.1.trans (HD.out.2.mono hta (by omega)), hP.left⟩)
              go_wp2_with fail
              go_roundw
              case rel => first | exact ⟨m + 1, b, z, _, t2, d2, by omega, bn, z0, z1, by omega, by go_num, rfl, rfl, rfl, rfl, hS2, NEW, gr_trans hG1 hg2⟩ | ((repeat apply Exists.intro); exact ⟨⟨m + 1, b, z, _, t2, d2, by omega, bn, z0, z1, by omega, by go_num, rfl, rfl, rfl, rfl, hS2, NEW, gr_trans hG1 hg2⟩, rfl⟩)
              case measure => simp [intOf] <;> omega
            · go_wp2_with fail
              refine (IH.out (m + 1) b _ _ _ (by omega) rfl z0 z1 _ d1 hS1 (by have := HAB.out; omega) (by omega) bn (Lib.hid HPT.out.left)).mono ?_
              rintro e1 w4 ⟨d2, rfl, hS2, HD, hg2⟩
              have NEW : Hid (Todo lt a0 b0 a m d2 ∧ Mv a0 b0 d d2 ∧ SB.Left lt d2 a m) := Lib.hid (by
                have hP := HPT.out.mvR HD.out.2
                have hM := HD.out.2.mono (show a ≤ m + 1 by omega) (Nat.le_refl b)
                exact ⟨(HT1.out.1.mv hM).left HO.out hP am mb HD.out.1, HT1.out.2.1.trans (HD.out.2.mono (by omega) htb), (HT1.out.2.2.mv hM).sub (by omega)⟩)
              go_wp2_with fail
              go_roundw
              case rel => first | exact ⟨a, m, z, _, t2, d2, am, by omega, z0, z1, by omega, rfl, rfl, rfl, rfl, rfl, hS2, NEW, gr_trans hG1 hg2⟩ | ((repeat apply Exists.intro); exact ⟨⟨a, m, z, _, t2, d2, am, by omega, z0, z1, by omega, rfl, rfl, rfl, rfl, rfl, hS2, NEW, gr_trans hG1 hg2⟩, rfl⟩)
              case measure => simp [intOf] <;> omega
        · have ha' : ¬ (0 : Int) < (a : Int) := by omega
          go_wp2_with fail
          refine (part_r hR.out HO.out HI.out a b pi _ _ _ rfl rfl rfl _ f hW p1 p2 bn hn).mono ?_
          rintro e1 w3 ⟨d1, v1, rfl, hS1, HD, hg1⟩
          have HD2 := HD.out
          obtain ⟨m, t2, rfl, am, mb, hm1, hpt⟩ := HD2
          have HM := Lib.hid hm1; have HPT := Lib.hid hpt; clear HD hm1 hpt
          have HT1 : Hid (Todo lt a0 b0 a b d1 ∧ Mv a0 b0 d d1 ∧ SB.Left lt d1 a b) := Lib.hid ⟨HT.out.1.mv HM.out, HT.out.2.1.trans (HM.out.mono hta htb), HT.out.2.2.mv HM.out⟩
          have hG1 := gr_trans hG hg1
          clear hW hG hg1 HM HT
          by_cases hlr : (m : Int) - (a : Int) < (b : Int) - (m : Int)
          · go_wp2_with fail
            refine (IH.out a m _ _ _ rfl rfl z0 z1 _ d1 hS1 (by have := HAB.out; omega) am (by omega) (Lib.hid (HT1.out.2.2.sub (by omega)))).mono ?_
            rintro e1 w4 ⟨d2, rfl, hS2, HD, hg2⟩
            have NEW : Hid (Todo lt a0 b0 (m + 1) b d2 ∧ Mv a0 b0 d d2 ∧ SB.Left lt d2 (m + 1) b) := Lib.hid (by
              have hP := HPT.out.mvL HD.out.2
              exact ⟨(HT1.out.1.mv (HD.out.2.mono (Nat.le_refl _) (by omega))).right HO.out hP am mb HD.out.1, HT1.out.2.1.trans (HD.out.2.mono hta (by omega)), hP.left⟩)
            go_wp2_with fail
            go_roundw
            case rel => first | exact ⟨m + 1, b, z, _, t2, d2, by omega, bn, z0, z1, by omega, by go_num, rfl, rfl, rfl, rfl, hS2, NEW, gr_trans hG1 hg2⟩ | ((repeat apply Exists.intro); exact ⟨⟨m + 1, b, z, _, t2, d2, by omega, bn, z0, z1, by omega, by go_num, rfl, rfl, rfl, rfl, hS2, NEW, gr_trans hG1 hg2⟩, rfl⟩)
            case measure => simp [intOf] <;> omega
          · go_wp2_with fail
            refine (IH.out (m + 1) b _ _ _ (by omega) rfl z0 z1 _ d1 hS1 (by have := HAB.out; omega) (by omega) bn (Lib.hid HPT.out.left)).mono ?_
            rintro e1 w4 ⟨d2, rfl, hS2, HD, hg2⟩
            have NEW : Hid (Todo lt a0 b0 a m d2 ∧ Mv a0 b0 d d2 ∧ SB.Left lt d2 a m) := Lib.hid (by
              have hP := HPT.out.mvR HD.out.2
              have hM := HD.out.2.mono (show a ≤ m + 1 by omega) (Nat.le_refl b)
              exact ⟨(HT1.out.1.mv hM).left HO.out hP am mb HD.out.1, HT1.out.2.1.trans (HD.out.2.mono (by omega) htb), (HT1.out.2.2.mv hM).sub (by omega)⟩)
            go_wp2_with fail
            go_roundw
            case rel => first | exact ⟨a, m, z, _, t2, d2, am, by omega, z0, z1, by omega, rfl, rfl, rfl, rfl, rfl, hS2, NEW, gr_trans hG1 hg2⟩ | ((repeat apply Exists.intro); exact ⟨⟨a, m, z, _, t2, d2, am, by omega, z0, z1, by omega, rfl, rfl, rfl, rfl, rfl, hS2, NEW, gr_trans hG1 hg2⟩, rfl⟩)
            case measure => simp [intOf] <;> omega
theorem pdq_aux {bs B : Nat} {rl rs : Value} {lt : α → α → Bool} {n row : Nat} {St : World → (Nat → α) → Prop} (E : REnv bs B rl rs lt n row St) (O : Ord lt) (irr : ∀ x, lt x x = false) (hn : n < 1099511627776) : ∀ (sz : Nat) (a b : Nat) (x y z : Int), x = (a : Int) → y = (b : Int) → 0 ≤ z → z ≤ 64 → ∀ (w : World) (d : Nat → α), St w d → b - a < sz → a ≤ b → b ≤ n → Hid (SB.Left lt d a b) →
    Calls Try.prog 14 #[.iface 36 (.pointer (some ⟨B, 0, none⟩)), .int .i64 x, .int .i64 y, .int .i64 z] w (SPostS row St (fun d' => Srt lt d' a b ∧ Mv a b d d') w)
  | 0, a, b, x, y, z, hx, hy, z0, z1, w, d, h, hs, h1, h2, HL => by omega
  | sz + 1, a, b, x, y, z, hx, hy, z0, z1, w, d, h, hs, h1, h2, HL => by
    subst hx hy
    exact pdq_step E O irr hn sz (pdq_aux E O irr hn sz) a b z z0 z1 w d h hs h1 h2 HL
theorem pdq_any {bs B : Nat} {rl rs : Value} {lt : α → α → Bool} {n row : Nat} {St : World → (Nat → α) → Prop} (E : REnv bs B rl rs lt n row St) (O : Ord lt) (irr : ∀ x, lt x x = false) (hn : n < 1099511627776) (x y z : Int) (hx : x = 0) (hy : y = (n : Int)) (z0 : 0 ≤ z) (z1 : z ≤ 64) (w : World) (d : Nat → α) (h : St w d) :
    Calls Try.prog 14 #[.iface 36 (.pointer (some ⟨B, 0, none⟩)), .int .i64 x, .int .i64 y, .int .i64 z] w (SPostS row St (fun d' => Srt lt d' 0 n ∧ Mv 0 n d d') w) :=
  pdq_aux E O irr hn (n + 1) 0 n x y z hx hy z0 z1 w d h (by omega) (Nat.zero_le _) (Nat.le_refl _) (Lib.hid (SB.Left.zero d n))
end Go.Proofs.Ythpgnlmkgllonaa
