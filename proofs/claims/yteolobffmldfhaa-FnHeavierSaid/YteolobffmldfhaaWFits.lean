/- The law FnFits walked: it returns true. No condition. -/
import Derived.Test.YteolobffmldfhaaFitLaw
import Derived.Test.YteolobffmldfhaaDrawFits
namespace Go.Proofs.Yteolobffmldfhaa
open Go.RowKit Go.PlainAid
set_option maxRecDepth 100000
set_option linter.unusedVariables false
theorem big_anyF (xs : List Int) (v : Value) (w : World) (h : SliceOf w 1 vB v xs) : Calls Try.prog 24 #[v] w fun e w' => e = .returned (.bool (decide (4096 < (xs.length : Int)))) ∧ w = w' := by
  obtain ⟨A, c, rfl, hle, hm⟩ := h.form
  go_enter Try.func24, Try.ntmps24
  go_wp2
  go_ret
  exact ⟨rfl, rfl⟩
def AtP (w : World) (e : Ending) (w' : World) : Prop := ∃ x : Int, e = .returned (.int .i64 x) ∧ 0 ≤ x ∧ x ≤ 255 ∧ w = w'
set_option maxHeartbeats 800000 in
theorem atF (xs : List Int) (v : Value) (n : Nat) (w : World) (ok : ∀ x ∈ xs, okB x) (h : SliceOf w 1 vB v xs) : Calls Try.prog 26 #[v, .int .i64 (n : Int)] w (AtP w) := by
  obtain ⟨A, c, rfl, hle, hm⟩ := h.form
  unfold maxLen at hm
  by_cases hn : n < xs.length
  · obtain ⟨A', c', e1, -, -, e2⟩ := id h
    injection e1 with e3 e4 e5
    subst e3
    obtain ⟨b_, off_, rfl, hb_, hy⟩ := e2 (by omega)
    have y0 : w.cell? ⟨b_, off_ + n, none⟩ = some (.int .u8 xs[n]) := by simpa using hy n xs[n] 0 _ (List.getElem?_eq_getElem hn) rfl
    have hb2 := ok _ (List.getElem_mem hn)
    obtain ⟨y, hyy⟩ : ∃ y, y = xs[n] := ⟨_, rfl⟩
    rw [← hyy] at y0 hb2
    unfold okB at hb2
    obtain ⟨hb3, hb4⟩ := hb2
    have n0 : (0 : Int) ≤ (n : Int) := by omega
    have n1 : (n : Int) < (xs.length : Int) := by omega
    clear hy e2 e5 hyy
    go_enter Try.func26, Try.ntmps26
    go_wp2
    go_ret
    exact ⟨_, rfl, by omega, by omega, rfl⟩
  · have n1 : ¬ (n : Int) < (xs.length : Int) := by omega
    have n2 : (xs.length : Int) ≤ (n : Int) := by omega
    go_enter Try.func26, Try.ntmps26
    go_wp2
    go_ret
    exact ⟨0, rfl, by omega, by omega, rfl⟩
theorem rowAt_set {w : World} {g k : Nat} {d : Array Int} (h : RowAt w g d) (hk : k < d.size) (v : Int) : ∃ d' : Array Int, d'.size = d.size ∧ RowAt (w.setCell ⟨g, k, none⟩ (.int .i64 v)) g d' := by
  refine ⟨d.setIfInBounds k v, by simp, fun t ht => ?_⟩
  have ht' : t < d.size := by simpa using ht
  refine ⟨?_, by simpa [go_sem] using (h t ht').2⟩
  by_cases e : t = k
  · subst e
    have e1 : (d.setIfInBounds t v)[t]! = v := by simp [ht']
    rw [e1]
    exact World.cell?_setCell_same _ _ _ (h t ht').1
  · have e1 : (d.setIfInBounds k v)[t]! = d[t]! := by simp [ht', Ne.symm e]
    rw [e1, show (w.setCell ⟨g, k, none⟩ (.int .i64 v)).cell? ⟨g, t, none⟩ = w.cell? ⟨g, t, none⟩ from by first | (simp [go_sem]; done) | (simp [go_sem]; omega)]
    exact (h t ht').1
set_option maxHeartbeats 6400000 in
theorem walk_Fits (v0 : Value) (w : World) (p0 : VBytes w v0) : Calls Try.prog 6 #[v0] w fun e w' => e = .returned (.bool true) ∧ Below w.heap.size w w' := by
  obtain ⟨cs, hok0, h0⟩ := p0
  by_cases hb : 4096 < (cs.length : Int)
  · have hb' : decide (4096 < (cs.length : Int)) = true := decide_eq_true hb
    go_enter Try.func6, Try.ntmps6
    go_wp2_with (go_at_call 24; refine (big_anyF cs _ _ h0).mono ?_; rintro e w' ⟨rfl, rfl⟩)
    go_ret
    exact ⟨rfl, Below.refl _ _⟩
  have hb' : decide (4096 < (cs.length : Int)) = false := decide_eq_false hb
  obtain ⟨i0, hi, hz0, hz1, hz2⟩ := info_parts info_int
  obtain ⟨A0, k0, rfl, hle0, hm0⟩ := h0.form
  go_enter Try.func6, Try.ntmps6
  go_wp2_with (go_at_call 24; refine (big_anyF cs _ _ h0).mono ?_; rintro e w' ⟨rfl, rfl⟩)
  refine (drawFits_any cs _ _ h0).mono ?_
  rintro e w1 ⟨A, c, xs, g, rfl, sa, oka, ⟨ys, hy3, oky, sb⟩, b1⟩
  have hE := own_empty (w := w1) 3 3 rfl
  have B0 : Below w1.heap.size w1 (w1.alloc (.cells #[] 3)) := by go_grown
  have hsrc := sb.at_
  have lg : g < w1.heap.size := by
    obtain ⟨A', c', e, -, -, hh⟩ := id sb
    injection e with e1 e2 e3
    obtain ⟨bb, off, e4, hlt, -⟩ := hh (by omega)
    rw [← e1] at e4; injection e4 with e4; injection e4 with e5 e6; omega
  have hy3' := Lib.hid hy3
  clear hy3
  go_wp2_with (at_builtin; refine wpList_append_own _ rfl (.tmp 14) (.tmp 15) 22 rfl w1.heap.size 3 i0 (.int .i64 0) 1 8 Try.underlying22 hi hz0 hz1 hz2 rfl (by decide) _ _ _ rfl hE ⟨g, 0, none⟩ 3 3 (ys.map (Value.int .i64)) rfl (by simp; exact hy3'.out) ?c1 ?c2 ?c3 ?c4 ?c5 ?_)
  case c1 =>
    intro j u hu
    have hj := hsrc.out j u hu
    exact (B0.cell (p := (Addr.mk g 0 none).add j) (by rw [block_of_add]; exact lg)).trans hj
  case c2 => intro u hu; rw [List.mem_map] at hu; obtain ⟨x, -, rfl⟩ := hu; rfl
  case c3 => rw [List.length_nil]; unfold maxLen; omega
  case c4 => rw [List.length_nil]; omega
  case c5 => simp
  intro v' w2 hown hg hnil
  have hO : Own w2 w1.heap.size 3 1 vI v' ys := own_nums hown
  have B2 : Below w1.heap.size w1 w2 := B0.grown hg (by simp) (fun g' hg' => (World.ownsRow.lt hE g' hg').1)
  obtain ⟨gc, cp, rfl, hgb, hgl, hc1, hc2⟩ := hO.some_ (by have := hy3'.out; omega)
  have R0 := hO.rowAt
  have BW := chain b1 B2
  have ds0 : (ys.toArray).size = 3 := by simpa using hy3'.out
  rw [hy3'.out] at hc1
  simp only [hy3'.out]
  clear hown hg hnil hE B0 hO
  have DS0 := Lib.hid ds0
  clear ds0
  go_wp2_with fail
  go_loopw [6] (fun iv wr => ∃ (k : Nat) (d : Array Int), k ≤ 3 ∧ iv = .int .i64 k ∧ Hid (d.size = 3) ∧ RowAt wr gc d ∧ Saves gc w2 wr) (fun iv _ => 3 - (intOf iv).toNat)
  case atStart => exact ⟨0, ys.toArray, by omega, rfl, DS0, R0, Saves.refl _ _⟩
  case round =>
    obtain ⟨k, d, hk, rfl, hd, hR, hS⟩ := hrel
    have Bn : Below w1.heap.size w1 wr := B2.trans (hS.below hgb B2.size)
    have BR : Below w.heap.size w wr := chain b1 Bn
    by_cases hlt : k < 3
    · have hc := (hR k (by rw [hd.out]; exact hlt)).1
      have hf := (hR k (by rw [hd.out]; exact hlt)).2
      obtain ⟨u, hu⟩ : ∃ u, u = d[k]! := ⟨_, rfl⟩
      rw [← hu] at hc
      clear hu
      have k0 : (0 : Int) ≤ (k : Int) := by omega
      have k1 : (k : Int) < 3 := by omega
      have wk : IntKind.i64.wrap ((k : Int) + 1) = ((k + 1 : Nat) : Int) := by rw [IntWalk.i64_in _ (by omega)]; omega
      have CA := fun (Q : World) (hQ : Below w.heap.size w Q) => atF cs _ (k + 1) Q hok0 (h0.keep hQ (Nat.le_refl _))
      go_wp2_with fail
      go_region_with (go_at_call 26; refine (CA _ BR.drew).mono ?_; rintro e w' ⟨x, rfl, x0, x1, rfl⟩)
      all_goals
        go_wp2_with fail
        go_roundw
        case rel =>
          obtain ⟨d', hd', hR'⟩ := rowAt_set (w := wr.drew) hR (k := k) (by rw [hd.out]; exact hlt) _
          exact ⟨k + 1, d', by omega, by go_num, Lib.hid (hd'.trans hd.out), hR', (hS.drew).setCell rfl _⟩
        case measure => simp [intOf]; omega
    · obtain rfl : k = 3 := by omega
      have sA := sa.keep Bn (Nat.le_refl _)
      have sB := sb.keep Bn (Nat.le_refl _)
      have sC := hR.slice (c := cp) (by have := hS.size; omega) (by rw [hd.out]; exact hc1) hc2
      obtain ⟨zs, hzs⟩ : ∃ zs, zs = d.toList := ⟨_, rfl⟩
      rw [← hzs, hd.out] at sC
      clear hzs hR hS Bn sa sb R0 hd

      cases q1 : fits xs ys
      · go_wp2_with fail
        refine (fitsI xs ys _ _ _ sA sB).mono ?_
        rintro e w10 ⟨rfl, b10⟩
        have B10 := chain BR b10
        rw [q1]
        go_wp2_with fail
        refine (fitsS xs ys _ _ _ (sA.keep b10 (Nat.le_refl _)) (sB.keep b10 (Nat.le_refl _))).mono ?_
        rintro e w11 ⟨rfl, b11⟩
        have B11 := chain B10 b11
        rw [q1]
        go_wp2_with fail
        refine (fitsI xs ys _ _ _ ((sA.keep b10 (Nat.le_refl _)).keep b11 (Nat.le_refl _)) ((sB.keep b10 (Nat.le_refl _)).keep b11 (Nat.le_refl _))).mono ?_
        rintro e w12 ⟨rfl, b12⟩
        have B12 := chain B11 b12
        rw [q1]
        go_wp2_with fail
        refine (fitsI xs ys _ _ _ (((sA.keep b10 (Nat.le_refl _)).keep b11 (Nat.le_refl _)).keep b12 (Nat.le_refl _)) (((sB.keep b10 (Nat.le_refl _)).keep b11 (Nat.le_refl _)).keep b12 (Nat.le_refl _))).mono ?_
        rintro e w13 ⟨rfl, b13⟩
        have B13 := chain B12 b13
        rw [q1]
        go_wp2_with fail
        go_ret
        exact ⟨rfl, B13⟩
      obtain ⟨va', va⟩ : ∃ z, z = vol xs := ⟨_, rfl⟩
      obtain ⟨vb', vb⟩ : ∃ z, z = vol ys := ⟨_, rfl⟩
      obtain ⟨ga', ga⟩ : ∃ z, z = girth xs := ⟨_, rfl⟩
      obtain ⟨gb', gb⟩ : ∃ z, z = girth ys := ⟨_, rfl⟩
      have hv : va' ≤ vb' := by rw [va, vb]; exact vol_le q1
      have hg : ga' ≤ gb' := by rw [ga, gb]; exact girth_le q1
      have VA_ := Lib.hid va
      have VB_ := Lib.hid vb
      have GA_ := Lib.hid ga
      have GB_ := Lib.hid gb
      clear va vb ga gb
      have Q1 := Lib.hid q1
      clear q1
      cases q2 : fits ys zs
      · have Q2 := Lib.hid q2
        clear q2
        go_wp2_with fail
        refine (fitsI xs ys _ _ _ sA sB).mono ?_
        rintro e w10 ⟨rfl, b10⟩
        have B10 := chain BR b10
        rw [Q1.out]
        go_wp2_with fail
        refine (fitsS xs ys _ _ _ (sA.keep b10 (Nat.le_refl _)) (sB.keep b10 (Nat.le_refl _))).mono ?_
        rintro e w11 ⟨rfl, b11⟩
        have B11 := chain B10 b11
        rw [Q1.out]
        go_wp2_with fail
        refine (fitsI xs ys _ _ _ ((sA.keep b10 (Nat.le_refl _)).keep b11 (Nat.le_refl _)) ((sB.keep b10 (Nat.le_refl _)).keep b11 (Nat.le_refl _))).mono ?_
        rintro e w12 ⟨rfl, b12⟩
        have B12 := chain B11 b12
        rw [Q1.out]
        go_wp2_with fail
        refine (fitsI ys zs _ _ _ (((sB.keep b10 (Nat.le_refl _)).keep b11 (Nat.le_refl _)).keep b12 (Nat.le_refl _)) (((sC.keep b10 (Nat.le_refl _)).keep b11 (Nat.le_refl _)).keep b12 (Nat.le_refl _))).mono ?_
        rintro e w13 ⟨rfl, b13⟩
        have B13 := chain B12 b13
        rw [Q2.out]
        go_wp2_with fail
        refine (fitsI xs ys _ _ _ ((((sA.keep b10 (Nat.le_refl _)).keep b11 (Nat.le_refl _)).keep b12 (Nat.le_refl _)).keep b13 (Nat.le_refl _)) ((((sB.keep b10 (Nat.le_refl _)).keep b11 (Nat.le_refl _)).keep b12 (Nat.le_refl _)).keep b13 (Nat.le_refl _))).mono ?_
        rintro e w14 ⟨rfl, b14⟩
        have B14 := chain B13 b14
        rw [Q1.out]
        go_wp2_with fail
        refine (volumeI xs _ _ (((((sA.keep b10 (Nat.le_refl _)).keep b11 (Nat.le_refl _)).keep b12 (Nat.le_refl _)).keep b13 (Nat.le_refl _)).keep b14 (Nat.le_refl _))).mono ?_
        rintro e w15 ⟨rfl, b15⟩
        have B15 := chain B14 b15
        rw [← VA_.out]
        go_wp2_with fail
        refine (volumeI ys _ _ ((((((sB.keep b10 (Nat.le_refl _)).keep b11 (Nat.le_refl _)).keep b12 (Nat.le_refl _)).keep b13 (Nat.le_refl _)).keep b14 (Nat.le_refl _)).keep b15 (Nat.le_refl _))).mono ?_
        rintro e w16 ⟨rfl, b16⟩
        have B16 := chain B15 b16
        rw [← VB_.out]
        go_wp2_with fail
        refine (girthI xs _ _ (((((((sA.keep b10 (Nat.le_refl _)).keep b11 (Nat.le_refl _)).keep b12 (Nat.le_refl _)).keep b13 (Nat.le_refl _)).keep b14 (Nat.le_refl _)).keep b15 (Nat.le_refl _)).keep b16 (Nat.le_refl _))).mono ?_
        rintro e w17 ⟨rfl, b17⟩
        have B17 := chain B16 b17
        rw [← GA_.out]
        go_wp2_with fail
        refine (girthI ys _ _ ((((((((sB.keep b10 (Nat.le_refl _)).keep b11 (Nat.le_refl _)).keep b12 (Nat.le_refl _)).keep b13 (Nat.le_refl _)).keep b14 (Nat.le_refl _)).keep b15 (Nat.le_refl _)).keep b16 (Nat.le_refl _)).keep b17 (Nat.le_refl _))).mono ?_
        rintro e w18 ⟨rfl, b18⟩
        have B18 := chain B17 b18
        rw [← GB_.out]
        go_wp2_with fail
        go_ret
        exact ⟨rfl, B18⟩
      have Q3 : Hid (fits xs zs = true) := Lib.hid (fits_trans Q1.out q2)
      have Q2 := Lib.hid q2
      clear q2
      go_wp2_with fail
      refine (fitsI xs ys _ _ _ sA sB).mono ?_
      rintro e w10 ⟨rfl, b10⟩
      have B10 := chain BR b10
      rw [Q1.out]
      go_wp2_with fail
      refine (fitsS xs ys _ _ _ (sA.keep b10 (Nat.le_refl _)) (sB.keep b10 (Nat.le_refl _))).mono ?_
      rintro e w11 ⟨rfl, b11⟩
      have B11 := chain B10 b11
      rw [Q1.out]
      go_wp2_with fail
      refine (fitsI xs ys _ _ _ ((sA.keep b10 (Nat.le_refl _)).keep b11 (Nat.le_refl _)) ((sB.keep b10 (Nat.le_refl _)).keep b11 (Nat.le_refl _))).mono ?_
      rintro e w12 ⟨rfl, b12⟩
      have B12 := chain B11 b12
      rw [Q1.out]
      go_wp2_with fail
      refine (fitsI ys zs _ _ _ (((sB.keep b10 (Nat.le_refl _)).keep b11 (Nat.le_refl _)).keep b12 (Nat.le_refl _)) (((sC.keep b10 (Nat.le_refl _)).keep b11 (Nat.le_refl _)).keep b12 (Nat.le_refl _))).mono ?_
      rintro e w13 ⟨rfl, b13⟩
      have B13 := chain B12 b13
      rw [Q2.out]
      go_wp2_with fail
      refine (fitsI xs zs _ _ _ ((((sA.keep b10 (Nat.le_refl _)).keep b11 (Nat.le_refl _)).keep b12 (Nat.le_refl _)).keep b13 (Nat.le_refl _)) ((((sC.keep b10 (Nat.le_refl _)).keep b11 (Nat.le_refl _)).keep b12 (Nat.le_refl _)).keep b13 (Nat.le_refl _))).mono ?_
      rintro e w14 ⟨rfl, b14⟩
      have B14 := chain B13 b14
      rw [Q3.out]
      go_wp2_with fail
      refine (fitsI xs ys _ _ _ (((((sA.keep b10 (Nat.le_refl _)).keep b11 (Nat.le_refl _)).keep b12 (Nat.le_refl _)).keep b13 (Nat.le_refl _)).keep b14 (Nat.le_refl _)) (((((sB.keep b10 (Nat.le_refl _)).keep b11 (Nat.le_refl _)).keep b12 (Nat.le_refl _)).keep b13 (Nat.le_refl _)).keep b14 (Nat.le_refl _))).mono ?_
      rintro e w15 ⟨rfl, b15⟩
      have B15 := chain B14 b15
      rw [Q1.out]
      go_wp2_with fail
      refine (volumeI xs _ _ ((((((sA.keep b10 (Nat.le_refl _)).keep b11 (Nat.le_refl _)).keep b12 (Nat.le_refl _)).keep b13 (Nat.le_refl _)).keep b14 (Nat.le_refl _)).keep b15 (Nat.le_refl _))).mono ?_
      rintro e w16 ⟨rfl, b16⟩
      have B16 := chain B15 b16
      rw [← VA_.out]
      go_wp2_with fail
      refine (volumeI ys _ _ (((((((sB.keep b10 (Nat.le_refl _)).keep b11 (Nat.le_refl _)).keep b12 (Nat.le_refl _)).keep b13 (Nat.le_refl _)).keep b14 (Nat.le_refl _)).keep b15 (Nat.le_refl _)).keep b16 (Nat.le_refl _))).mono ?_
      rintro e w17 ⟨rfl, b17⟩
      have B17 := chain B16 b17
      rw [← VB_.out]
      go_wp2_with fail
      refine (girthI xs _ _ ((((((((sA.keep b10 (Nat.le_refl _)).keep b11 (Nat.le_refl _)).keep b12 (Nat.le_refl _)).keep b13 (Nat.le_refl _)).keep b14 (Nat.le_refl _)).keep b15 (Nat.le_refl _)).keep b16 (Nat.le_refl _)).keep b17 (Nat.le_refl _))).mono ?_
      rintro e w18 ⟨rfl, b18⟩
      have B18 := chain B17 b18
      rw [← GA_.out]
      go_wp2_with fail
      refine (girthI ys _ _ (((((((((sB.keep b10 (Nat.le_refl _)).keep b11 (Nat.le_refl _)).keep b12 (Nat.le_refl _)).keep b13 (Nat.le_refl _)).keep b14 (Nat.le_refl _)).keep b15 (Nat.le_refl _)).keep b16 (Nat.le_refl _)).keep b17 (Nat.le_refl _)).keep b18 (Nat.le_refl _))).mono ?_
      rintro e w19 ⟨rfl, b19⟩
      have B19 := chain B18 b19
      rw [← GB_.out]
      go_wp2_with fail
      go_ret
      exact ⟨rfl, B19⟩
end Go.Proofs.Yteolobffmldfhaa
