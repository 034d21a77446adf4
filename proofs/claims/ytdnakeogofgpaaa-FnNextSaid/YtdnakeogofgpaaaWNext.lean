/- The law FnNext walked: it returns true. No condition. -/
import Derived.Test.YtdnakeogofgpaaaTripLaw
import Derived.Test.YtdnakeogofgpaaaNextLastI
import Derived.Test.YtdnakeogofgpaaaDrawNext
namespace Go.Proofs.Ytdnakeogofgpaaa
open Go.RowKit Go.PlainAid
set_option maxRecDepth 100000
set_option linter.unusedVariables false
theorem big_anyNext (xs : List Int) (v : Value) (w : World) (h : SliceOf w 1 vB v xs) : Calls Try.prog 6 #[v] w fun e w' => e = .returned (.bool (decide (4096 < (xs.length : Int)))) ∧ w = w' := by
  obtain ⟨A, c, rfl, hle, hm⟩ := h.form
  go_enter Try.func6, Try.ntmps6
  go_wp2
  go_ret
  exact ⟨rfl, rfl⟩
theorem go_alloc_belowNext (w : World) (o : Obj) : Below w.heap.size w (w.alloc o) := (Below.refl _ _).alloc (Nat.le_refl _) o
theorem cell_new_storeNext {w : World} {b j i : Nat} {v u : Value} {ob : Obj} (h : w.cell? ⟨b, j, none⟩ = some v) : ((w.alloc ob).setCell ⟨w.heap.size, i, none⟩ u).cell? ⟨b, j, none⟩ = some v := by
  have hl := cell_lt h
  exact cell_farN (Nat.ne_of_lt hl) (cell_keep (go_alloc_belowNext _ _) h)
theorem below_asNext (w : World) (ob : Obj) (i : Nat) (u : Value) : Below w.heap.size w ((w.alloc ob).setCell ⟨w.heap.size, i, none⟩ u) := (go_alloc_belowNext w ob).setCell (Nat.le_refl _) u
theorem below_as2Next (w : World) (ob : Obj) (i j : Nat) (u v : Value) : Below w.heap.size w (((w.alloc ob).setCell ⟨w.heap.size, i, none⟩ u).setCell ⟨w.heap.size, j, none⟩ v) := (below_asNext w ob i u).setCell (Nat.le_refl _) v
theorem below_setTNext {wt w : World} {b o : Nat} {u : Value} (hb : wt.heap.size ≤ b) (h : Below wt.heap.size wt w) : Below wt.heap.size wt (w.setCell ⟨b, o, none⟩ u) := h.setCell hb _
theorem below_allocTNext {wt w : World} {ob : Obj} (h : Below wt.heap.size wt w) : Below wt.heap.size wt (w.alloc ob) := h.alloc h.size _
theorem below_allocHNext {wt w : World} {ob : Obj} (h : Hid (Below wt.heap.size wt w)) : Below wt.heap.size wt (w.alloc ob) := h.out.alloc h.out.size _
theorem newcNext (w : World) (x y : Int) : (w.alloc (.cells #[.int .i64 x, .int .i64 y] 39)).cell? ⟨w.heap.size, 0, none⟩ = some (.int .i64 x) ∧ (w.alloc (.cells #[.int .i64 x, .int .i64 y] 39)).cell? ⟨w.heap.size, 1, none⟩ = some (.int .i64 y) := by constructor <;> simp [go_sem]
theorem newfNext (w : World) (x y : Int) (i : Nat) : (w.alloc (.cells #[.int .i64 x, .int .i64 y] 39)).frozen? ⟨w.heap.size, i, none⟩ = false := by simp [go_sem]
theorem newlNext (w : World) (o : Obj) : w.heap.size < (w.alloc o).heap.size := by simp
theorem ef_ofNext {w8 w9 : World} {x y : Int} (b9 : Below (w8.alloc (.cells #[.int .i64 x, .int .i64 y] 39)).heap.size (w8.alloc (.cells #[.int .i64 x, .int .i64 y] 39)) w9) : ∀ i, w9.frozen? ⟨w8.heap.size, i, none⟩ = false := fun i =>
  (b9.frozen (p := ⟨w8.heap.size, i, none⟩) (by show w8.heap.size < _; simp)).trans (newfNext w8 x y i)
theorem ef2_ofNext {w7 w8 w9 : World} {x y : Int} (b8 : Below (w7.alloc (.cells #[.int .i64 x, .int .i64 y] 39)).drew.heap.size (w7.alloc (.cells #[.int .i64 x, .int .i64 y] 39)).drew w8) (b9 : Below w8.heap.size w8 w9) : ∀ i, w9.frozen? ⟨w7.heap.size, i, none⟩ = false := fun i => by
  have h0 : w7.heap.size < (w7.alloc (.cells #[.int .i64 x, .int .i64 y] 39)).drew.heap.size := by show w7.heap.size < (w7.heap.push _).size; simp
  exact (b9.frozen (p := ⟨w7.heap.size, i, none⟩) (Nat.lt_of_lt_of_le h0 b8.size)).trans ((b8.frozen (p := ⟨w7.heap.size, i, none⟩) h0).trans (newfNext w7 x y i))
theorem when_okNext (legs : List LegD) (off : List Int) (ch leg : Int) (D : Nat) : okI (bif runsOnB legs off ch leg D then startT legs leg D else -1) := by
  cases h : runsOnB legs off ch leg D
  · unfold okI; simp
  · obtain ⟨n, x, rfl, hn, hx, hD, sD, eD, ⟨st0, st1⟩, ⟨tk0, tk1⟩⟩ := runs_facts h
    simp only [cond_true]
    unfold okI; omega
set_option maxHeartbeats 12800000 in
theorem walk_Next (v0 : Value) (w : World) (p0 : VBytes w v0) : Calls Try.prog 5 #[v0] w fun e w' => e = .returned (.bool true) ∧ Below w.heap.size w w' := by
  obtain ⟨cs, hok0, h0⟩ := p0
  by_cases hb : 4096 < (cs.length : Int)
  · have hb' : decide (4096 < (cs.length : Int)) = true := decide_eq_true hb
    go_enter Try.func5, Try.ntmps5
    go_wp2_with (go_at_call 6; refine (big_anyNext cs _ _ h0).mono ?_; rintro e w' ⟨rfl, rfl⟩)
    go_ret
    exact ⟨rfl, Below.refl _ _⟩
  have hb' : decide (4096 < (cs.length : Int)) = false := decide_eq_false hb
  obtain ⟨A0, k0, rfl, hle0, hm0⟩ := h0.form
  go_enter Try.func5, Try.ntmps5
  go_wp2_with (go_at_call 6; refine (big_anyNext cs _ _ h0).mono ?_; rintro e w' ⟨rfl, rfl⟩)
  refine (drawNext_any cs _ _ h0).mono ?_
  rintro e w1 ⟨A, Ao, cl, co, legs, off, ch, leg, q, rfl, sl, hok, so, hoff, oc, oleg, oq, b1, aw1, aw2⟩
  clear aw1 aw2 hoff
  go_wp2_with fail
  obtain ⟨W1, hW⟩ : ∃ W, W = w1.alloc (.cells #[.slice A legs.length cl, .slice Ao off.length co, .int .i64 ch] 35) := ⟨_, rfl⟩
  rw [← hW]
  obtain ⟨g, hg⟩ : ∃ g, g = w1.heap.size := ⟨_, rfl⟩
  rw [← hg]
  have n0 : W1.cell? ⟨g, 0, none⟩ = some (.slice A legs.length cl) := by rw [hW, hg]; simp [go_sem]
  have n1 : W1.cell? ⟨g, 1, none⟩ = some (.slice Ao off.length co) := by rw [hW, hg]; simp [go_sem]
  have n2 : W1.cell? ⟨g, 2, none⟩ = some (.int .i64 ch) := by rw [hW, hg]; simp [go_sem]
  have bW : Below w1.heap.size w1 W1 := by rw [hW]; exact (Below.refl _ _).alloc (Nat.le_refl _) _
  clear hW
  have B1 := chain b1 bW
  replace sl := sl.keep bW (Nat.le_refl _)
  replace so := so.keep bW (Nat.le_refl _)
  have HG := Lib.hid hg; clear hg
  have CI := fun (Q : World) (s1 : SliceOf Q 6 LegD.vals (.slice A legs.length cl) legs) (s2 : SliceOf Q 1 vI (.slice Ao off.length co) off) (z : Int) (hz : okI z) => nextTripI legs off ch leg z _ _ Q hok oleg hz s1 s2
  have CS := fun (Q : World) (s1 : SliceOf Q 6 LegD.vals (.slice A legs.length cl) legs) (s2 : SliceOf Q 1 vI (.slice Ao off.length co) off) => nextTripS legs off ch leg q _ _ Q hok oleg oq s1 s2
  cases hf : nextF legs off ch leg q
  · skip
    have hno := next_none hf
    have eL : nextL legs off ch leg q = 0 := by unfold nextL; rw [hf]; rfl
    have eE : nextE legs off ch leg q = 0 := by unfold nextE; rw [hf]; rfl
    have CI1 : ∀ (Q : World), SliceOf Q 6 LegD.vals (.slice A legs.length cl) legs → SliceOf Q 1 vI (.slice Ao off.length co) off → Calls Try.prog 18 #[.agg #[.slice A legs.length cl, .slice Ao off.length co, .int .i64 ch], .int .i64 leg, .int .i64 q] Q fun e w' => e = .returned (.tuple #[.agg #[.int .i64 0, .int .i64 0], .bool false]) ∧ Below Q.heap.size Q w' := fun Q s1 s2 => by have h := CI Q s1 s2 q oq; rw [eL, eE, hf] at h; exact h
    have CS1 := CS
    rw [eL, eE, hf] at CS1
    clear CS eL eE
    have HNO := Lib.hid hno; have HF := Lib.hid hf; clear hno hf
    refine (CI1 _ sl so).mono ?_
    rintro e w2 ⟨rfl, b2⟩
    replace n0 := cell_keep b2 n0
    replace n1 := cell_keep b2 n1
    replace n2 := cell_keep b2 n2
    replace sl := sl.keep b2 (Nat.le_refl _)
    replace so := so.keep b2 (Nat.le_refl _)
    have B2 := chain B1 b2
    have lgw : g < w2.heap.size := cell_lt n0
    clear CI1
    go_wp2_with fail
    obtain ⟨W2, hW⟩ : ∃ W, W = w2.alloc (.cells #[.int .i64 0, .int .i64 0] 39) := ⟨_, rfl⟩
    rw [← hW]
    obtain ⟨g2, hg2⟩ : ∃ g2, g2 = w2.heap.size := ⟨_, rfl⟩
    rw [← hg2]
    have t0 : W2.cell? ⟨g2, 0, none⟩ = some (.int .i64 0) := by rw [hW, hg2]; simp [go_sem]
    have t1 : W2.cell? ⟨g2, 1, none⟩ = some (.int .i64 0) := by rw [hW, hg2]; simp [go_sem]
    have b3 : Below w2.heap.size w2 W2 := by rw [hW]; exact (Below.refl _ _).alloc (Nat.le_refl _) _
    clear hW
    have HG2 := Lib.hid hg2; clear hg2
    replace n0 := cell_keep b3 n0
    replace n1 := cell_keep b3 n1
    replace n2 := cell_keep b3 n2
    replace sl := sl.keep b3 (Nat.le_refl _)
    replace so := so.keep b3 (Nat.le_refl _)
    have B3 := chain B2 b3
    refine (CS1 _ sl so).mono ?_
    rintro e w4 ⟨rfl, b4⟩
    replace n0 := cell_keep b4 n0
    replace n1 := cell_keep b4 n1
    replace n2 := cell_keep b4 n2
    replace t0 := cell_keep b4 t0
    replace t1 := cell_keep b4 t1
    replace sl := sl.keep b4 (Nat.le_refl _)
    replace so := so.keep b4 (Nat.le_refl _)
    have B4 := chain B3 b4
    clear CS1
    have lg : g < w4.heap.size := cell_lt n0
    have lg2 : g2 < w4.heap.size := cell_lt t0
    go_wp2_with fail
    obtain ⟨W4, hW⟩ : ∃ W, W = w4.alloc (.cells #[.int .i64 0, .int .i64 0] 39) := ⟨_, rfl⟩
    rw [← hW]
    have b5 : Below w4.heap.size w4 W4 := by rw [hW]; exact (Below.refl _ _).alloc (Nat.le_refl _) _
    clear hW
    replace n0 := cell_keep b5 n0
    replace n1 := cell_keep b5 n1
    replace n2 := cell_keep b5 n2
    replace t0 := cell_keep b5 t0
    replace t1 := cell_keep b5 t1
    replace sl := sl.keep b5 (Nat.le_refl _)
    replace so := so.keep b5 (Nat.le_refl _)
    have B5 := chain B4 b5
    clear lg lg2 lgw
    go_loopw [11] (fun dv wr => ∃ k : Nat, 0 ≤ k ∧ k ≤ 61 ∧ dv = .int .i64 k ∧ wr.cell? ⟨g, 0, none⟩ = some (.slice A legs.length cl) ∧ wr.cell? ⟨g, 1, none⟩ = some (.slice Ao off.length co) ∧ wr.cell? ⟨g, 2, none⟩ = some (.int .i64 ch) ∧ wr.cell? ⟨g2, 0, none⟩ = some (.int .i64 0) ∧ wr.cell? ⟨g2, 1, none⟩ = some (.int .i64 0) ∧ SliceOf wr 6 LegD.vals (.slice A legs.length cl) legs ∧ SliceOf wr 1 vI (.slice Ao off.length co) off ∧ Below w.heap.size w wr) (fun dv _ => 61 - (intOf dv).toNat)
    case atStart => exact ⟨0, by omega, by omega, by first | rfl | go_num, n0, n1, n2, t0, t1, sl, so, B5⟩
    case round =>
      clear n0 n1 n2 t0 t1 sl so B5
      obtain ⟨k, hkF, hk, rfl, n0, n1, n2, t0, t1, sl, so, hB⟩ := hrel
      by_cases hlt : k < 61
      · skip
        have hle : (k : Int) ≤ 60 := by omega
        go_wp2_with fail
        obtain ⟨R, hR⟩ : ∃ R, R = runsOnB legs off ch leg (k : Int) := ⟨_, rfl⟩
        have CR := runsOnI legs off ch leg (k : Int) _ _ wr hok oleg (by unfold okI; omega) sl so
        rw [← hR] at CR
        have HR := Lib.hid hR; clear hR
        refine CR.mono ?_
        rintro e w16 ⟨rfl, b16⟩
        clear CR
        replace n0 := cell_keep b16 n0
        replace n1 := cell_keep b16 n1
        replace n2 := cell_keep b16 n2
        replace t0 := cell_keep b16 t0
        replace t1 := cell_keep b16 t1
        replace sl := sl.keep b16 (Nat.le_refl _)
        replace so := so.keep b16 (Nat.le_refl _)
        have B16 := chain hB b16
        cases R
        · go_wp2_with fail
          go_roundw
          case rel => exact ⟨k + 1, by omega, by omega, by go_num, n0, n1, n2, t0, t1, sl, so, B16⟩
          case measure => simp [intOf]; omega
        · obtain ⟨sk, hsk⟩ : ∃ z, z = startT legs leg (k : Int) := ⟨_, rfl⟩
          have CK := startsAtI legs off ch leg (k : Int) _ _ w16 hok oleg (by unfold okI; omega) sl so
          rw [← HR.out, ← hsk] at CK
          have hlt2 : sk < q := by rw [hsk]; exact HNO.out k (by omega) HR.out.symm
          have hnq : ¬ q ≤ sk := by omega
          clear hsk
          go_wp2_with fail
          refine CK.mono ?_
          rintro e w17 ⟨rfl, b17⟩
          clear CK
          replace n0 := cell_keep b17 n0
          replace n1 := cell_keep b17 n1
          replace n2 := cell_keep b17 n2
          replace t0 := cell_keep b17 t0
          replace t1 := cell_keep b17 t1
          replace sl := sl.keep b17 (Nat.le_refl _)
          replace so := so.keep b17 (Nat.le_refl _)
          have B17 := chain B16 b17
          simp only [cond_true]
          go_wp2_with fail
          go_roundw
          case rel => exact ⟨k + 1, by omega, by omega, by go_num, n0, n1, n2, t0, t1, sl, so, B17⟩
          case measure => simp [intOf]; omega
      · obtain rfl : k = 61 := by omega
        have h61 : ¬ ((61 : Nat) : Int) ≤ 60 := by omega
        go_wp2_with fail
        have CZ := fun (Q : World) (s1 : SliceOf Q 6 LegD.vals (.slice A legs.length cl) legs) (s2 : SliceOf Q 1 vI (.slice Ao off.length co) off) => startsAtI legs off ch 0 0 _ _ Q hok (by unfold okI; omega) (by unfold okI; omega) s1 s2
        have oz := when_okNext legs off ch 0 0
        obtain ⟨z, hz⟩ : ∃ z, z = (bif runsOnB legs off ch 0 0 then startT legs 0 0 else -1) := ⟨_, rfl⟩
        simp only [← hz] at CZ
        replace oz : okI z := by rw [hz]; exact oz
        clear hz
        have CU := fun (Q : World) s1 s2 => CI Q s1 s2 z oz
        clear CI
        obtain ⟨wt, rfl⟩ : ∃ wt : World, wt = wr := ⟨_, rfl⟩
        have lg : g < wt.heap.size := cell_lt n0
        have lg2 : g2 < wt.heap.size := cell_lt t0
        have ng : g ≠ wt.heap.size := Nat.ne_of_lt lg
        have ng2 : g2 ≠ wt.heap.size := Nat.ne_of_lt lg2
        have zt : wt.heap.size ≤ wt.heap.size := Nat.le_refl _
        have BT : Below wt.heap.size wt wt := Below.refl _ _
        have CA9 := fun (Q : World) (hq : Below wt.heap.size wt Q) => (CZ Q (sl.keep hq (Nat.le_refl _)) (so.keep hq (Nat.le_refl _))).mono (fun e w' (h : _ ∧ _) => (⟨h.1, h.2, chain hq h.2⟩ : _ ∧ _ ∧ Below wt.heap.size wt w'))
        have CU9 := fun (Q : World) (hq : Below wt.heap.size wt Q) => (CU Q (sl.keep hq (Nat.le_refl _)) (so.keep hq (Nat.le_refl _))).mono (fun e w' (h : _ ∧ _) => (⟨h.1, h.2, chain hq h.2⟩ : _ ∧ _ ∧ Below wt.heap.size wt w'))
        have QA : Below wt.heap.size wt ((wt.alloc (.cells #[.int .i64 0, .int .i64 0] 39)).drew) := (below_allocTNext BT).drew
        have CA8 := CA9 ((wt.alloc (.cells #[.int .i64 0, .int .i64 0] 39)).drew) QA
        have HCA8 := Lib.hid CA8; clear CA8 QA
        have na0 : ((wt.alloc (.cells #[.int .i64 0, .int .i64 0] 39)).drew).cell? ⟨wt.heap.size, 0, none⟩ = some (.int .i64 0) := (newcNext wt 0 0).1
        have na1 : ((wt.alloc (.cells #[.int .i64 0, .int .i64 0] 39)).drew).cell? ⟨wt.heap.size, 1, none⟩ = some (.int .i64 0) := (newcNext wt 0 0).2
        have naf : ∀ i, ((wt.alloc (.cells #[.int .i64 0, .int .i64 0] 39)).drew).frozen? ⟨wt.heap.size, i, none⟩ = false := newfNext wt 0 0
        have HNA0 := Lib.hid na0; have HNA1 := Lib.hid na1; have HNAF := Lib.hid naf; clear na0 na1 naf
        go_region_held3 (fun Q => Q.cell? ⟨g, 0, none⟩ = some (.slice A legs.length cl) ∧ Q.cell? ⟨g, 1, none⟩ = some (.slice Ao off.length co) ∧ Q.cell? ⟨g, 2, none⟩ = some (.int .i64 ch) ∧ Q.cell? ⟨g2, 0, none⟩ = some (.int .i64 0) ∧ Q.cell? ⟨g2, 1, none⟩ = some (.int .i64 0) ∧ Below wt.heap.size wt Q) (((try go_split_ands); refine ⟨?_, ?_, ?_, ?_, ?_, ?_⟩ <;> first | assumption | (apply Below.drew; assumption) | (apply cell_keep <;> assumption) | (apply cell_keep (go_alloc_belowNext _ _); assumption) | (apply cell_farN; assumption; apply cell_farN; assumption; assumption) | (apply below_allocTNext; assumption) | (apply Below.drew; apply below_allocTNext; assumption) | (apply below_allocHNext; assumption) | (apply below_setTNext; assumption; apply below_setTNext; assumption; assumption) | (apply chain' <;> assumption))) (first | (go_at_call 20; (with_reducible refine HCA8.out.mono ?_); rintro e w8 ⟨rfl, b8, q8⟩; have HD0 := Lib.hid (cell_keep b8 HNA0.out); have HD1 := Lib.hid (cell_keep b8 HNA1.out); have HDF : Hid (∀ i, w8.frozen? ⟨wt.heap.size, i, none⟩ = false) := Lib.hid (fun i => (b8.frozen (p := ⟨wt.heap.size, i, none⟩) (cell_lt HNA0.out)).trans (HNAF.out i)); have z8 := q8.size; have ng8 : g ≠ w8.heap.size := Nat.ne_of_lt (Nat.lt_of_lt_of_le lg z8); have ng82 : g2 ≠ w8.heap.size := Nat.ne_of_lt (Nat.lt_of_lt_of_le lg2 z8)) | (go_at_call 20; (try go_split_ands); refine (CA9 _ (by assumption)).mono ?_; rintro e w8 ⟨rfl, b8, q8⟩; have z8 := q8.size; have ng8 : g ≠ w8.heap.size := Nat.ne_of_lt (Nat.lt_of_lt_of_le lg z8); have ng82 : g2 ≠ w8.heap.size := Nat.ne_of_lt (Nat.lt_of_lt_of_le lg2 z8)) | (go_at_call 18; (try go_split_ands); refine (CU9 _ (by assumption)).mono ?_; rintro e w9 ⟨rfl, b9, q9⟩; (first | (have f0 : w9.cell? ⟨wt.heap.size, 0, none⟩ = some (.int .i64 0) := cell_keep b9 (cell_keep b8 (newcNext wt 0 0).1)) | (have f0 : w9.cell? ⟨wt.heap.size, 0, none⟩ = some (.int .i64 0) := cell_keep b9 (cell_keep b8 (newcNext wt.drew 0 0).1)) | skip); (first | (have f1 : w9.cell? ⟨wt.heap.size, 1, none⟩ = some (.int .i64 0) := cell_keep b9 (cell_keep b8 (newcNext wt 0 0).2)) | (have f1 : w9.cell? ⟨wt.heap.size, 1, none⟩ = some (.int .i64 0) := cell_keep b9 (cell_keep b8 (newcNext wt.drew 0 0).2)) | skip); (first | (have ff := ef2_ofNext b8 b9) | skip); (first | (have e0 : w9.cell? ⟨w8.heap.size, 0, none⟩ = some (.int .i64 0) := cell_keep b9 (newcNext w8 0 0).1) | skip); (first | (have e1 : w9.cell? ⟨w8.heap.size, 1, none⟩ = some (.int .i64 0) := cell_keep b9 (newcNext w8 0 0).2) | skip); (first | (have ef := ef_ofNext b9) | skip); have h9 := Lib.hid q9; have z9 := q9.size; have x0 := cell_keep q9 n0; have x1 := cell_keep q9 n1; have x2 := cell_keep q9 n2; have y0 := cell_keep q9 t0; have y1 := cell_keep q9 t1; have ng9 : g ≠ w9.heap.size := Nat.ne_of_lt (Nat.lt_of_lt_of_le lg z9); have ng92 : g2 ≠ w9.heap.size := Nat.ne_of_lt (Nat.lt_of_lt_of_le lg2 z9)))
        all_goals
          (try go_split_ands)
          go_wp2_with fail
          go_ret
          exact ⟨rfl, chain hB (by assumption)⟩
  · skip
    obtain ⟨D, hD, eL, eE, hrun, hq, hno, fF, fL, fE⟩ := next_some hf
    obtain ⟨n, x, rfl, hn, hx, -, sD, eD, ⟨st0, st1⟩, ⟨tk0, tk1⟩⟩ := runs_facts hrun
    have CI1 : ∀ (Q : World), SliceOf Q 6 LegD.vals (.slice A legs.length cl) legs → SliceOf Q 1 vI (.slice Ao off.length co) off → Calls Try.prog 18 #[.agg #[.slice A legs.length cl, .slice Ao off.length co, .int .i64 ch], .int .i64 (n : Int), .int .i64 q] Q fun e w' => e = .returned (.tuple #[.agg #[.int .i64 (n : Int), .int .i64 (D : Int)], .bool true]) ∧ Below Q.heap.size Q w' := fun Q s1 s2 => by have h := CI Q s1 s2 q oq; rw [eL, eE, hf] at h; exact h
    have CS1 := CS
    rw [eL, eE, hf] at CS1
    clear CS eL eE
    have HNO := Lib.hid hno; have HRUN := Lib.hid hrun; have HF := Lib.hid hf; clear hno hrun hf
    obtain ⟨sd, hsd⟩ : ∃ z, z = startT legs (n : Int) D := ⟨_, rfl⟩
    obtain ⟨ed, hed⟩ : ∃ z, z = endT legs (n : Int) D := ⟨_, rfl⟩
    rw [← hsd] at sD eD hq fF fL fE
    rw [← hed] at eD
    have okD : okI (D : Int) := by unfold okI; omega
    have osd : okI sd := by unfold okI; omega
    have oed : okI ed := by unfold okI; omega
    have CT : ∀ (Q : World), SliceOf Q 6 LegD.vals (.slice A legs.length cl) legs → SliceOf Q 1 vI (.slice Ao off.length co) off → Calls Try.prog 14 #[.agg #[.slice A legs.length cl, .slice Ao off.length co, .int .i64 ch], .agg #[.int .i64 (n : Int), .int .i64 (D : Int)]] Q fun e w' => e = .returned (.bool true) ∧ Below Q.heap.size Q w' := fun Q s1 s2 => by have h := isTripI legs off ch (n : Int) D _ _ Q hok oleg okD s1 s2; rw [HRUN.out] at h; exact h
    have CA : ∀ (Q : World), SliceOf Q 6 LegD.vals (.slice A legs.length cl) legs → SliceOf Q 1 vI (.slice Ao off.length co) off → Calls Try.prog 20 #[.agg #[.slice A legs.length cl, .slice Ao off.length co, .int .i64 ch], .agg #[.int .i64 (n : Int), .int .i64 (D : Int)]] Q fun e w' => e = .returned (.int .i64 sd) ∧ Below Q.heap.size Q w' := fun Q s1 s2 => by have h := startsAtI legs off ch (n : Int) D _ _ Q hok oleg okD s1 s2; rw [HRUN.out] at h; rw [hsd]; exact h
    have CE : ∀ (Q : World), SliceOf Q 6 LegD.vals (.slice A legs.length cl) legs → SliceOf Q 1 vI (.slice Ao off.length co) off → Calls Try.prog 15 #[.agg #[.slice A legs.length cl, .slice Ao off.length co, .int .i64 ch], .agg #[.int .i64 (n : Int), .int .i64 (D : Int)]] Q fun e w' => e = .returned (.int .i64 ed) ∧ Below Q.heap.size Q w' := fun Q s1 s2 => by have h := endsAtI legs off ch (n : Int) D _ _ Q hok oleg okD s1 s2; rw [HRUN.out] at h; rw [hed]; exact h
    have CU : ∀ (Q : World), SliceOf Q 6 LegD.vals (.slice A legs.length cl) legs → SliceOf Q 1 vI (.slice Ao off.length co) off → Calls Try.prog 18 #[.agg #[.slice A legs.length cl, .slice Ao off.length co, .int .i64 ch], .int .i64 (n : Int), .int .i64 sd] Q fun e w' => e = .returned (.tuple #[.agg #[.int .i64 (n : Int), .int .i64 (D : Int)], .bool true]) ∧ Below Q.heap.size Q w' := fun Q s1 s2 => by have h := CI Q s1 s2 sd osd; rw [fL, fE, fF] at h; exact h
    clear CI fF fL fE
    have HSD := Lib.hid hsd; have HED := Lib.hid hed; have HX := Lib.hid hx; have SD := Lib.hid sD; have ED := Lib.hid eD
    clear hsd hed hx sD eD
    refine (CI1 _ sl so).mono ?_
    rintro e w2 ⟨rfl, b2⟩
    replace n0 := cell_keep b2 n0
    replace n1 := cell_keep b2 n1
    replace n2 := cell_keep b2 n2
    replace sl := sl.keep b2 (Nat.le_refl _)
    replace so := so.keep b2 (Nat.le_refl _)
    have B2 := chain B1 b2
    have lgw : g < w2.heap.size := cell_lt n0
    clear CI1
    go_wp2_with fail
    obtain ⟨W2, hW⟩ : ∃ W, W = w2.alloc (.cells #[.int .i64 (n : Int), .int .i64 (D : Int)] 39) := ⟨_, rfl⟩
    rw [← hW]
    obtain ⟨g2, hg2⟩ : ∃ g2, g2 = w2.heap.size := ⟨_, rfl⟩
    rw [← hg2]
    have t0 : W2.cell? ⟨g2, 0, none⟩ = some (.int .i64 (n : Int)) := by rw [hW, hg2]; simp [go_sem]
    have t1 : W2.cell? ⟨g2, 1, none⟩ = some (.int .i64 (D : Int)) := by rw [hW, hg2]; simp [go_sem]
    have b3 : Below w2.heap.size w2 W2 := by rw [hW]; exact (Below.refl _ _).alloc (Nat.le_refl _) _
    clear hW
    have HG2 := Lib.hid hg2; clear hg2
    replace n0 := cell_keep b3 n0
    replace n1 := cell_keep b3 n1
    replace n2 := cell_keep b3 n2
    replace sl := sl.keep b3 (Nat.le_refl _)
    replace so := so.keep b3 (Nat.le_refl _)
    have B3 := chain B2 b3
    refine (CS1 _ sl so).mono ?_
    rintro e w4 ⟨rfl, b4⟩
    replace n0 := cell_keep b4 n0
    replace n1 := cell_keep b4 n1
    replace n2 := cell_keep b4 n2
    replace t0 := cell_keep b4 t0
    replace t1 := cell_keep b4 t1
    replace sl := sl.keep b4 (Nat.le_refl _)
    replace so := so.keep b4 (Nat.le_refl _)
    have B4 := chain B3 b4
    clear CS1
    have lg : g < w4.heap.size := cell_lt n0
    have lg2 : g2 < w4.heap.size := cell_lt t0
    go_wp2_with fail
    obtain ⟨W4, hW⟩ : ∃ W, W = w4.alloc (.cells #[.int .i64 (n : Int), .int .i64 (D : Int)] 39) := ⟨_, rfl⟩
    rw [← hW]
    have b5 : Below w4.heap.size w4 W4 := by rw [hW]; exact (Below.refl _ _).alloc (Nat.le_refl _) _
    clear hW
    replace n0 := cell_keep b5 n0
    replace n1 := cell_keep b5 n1
    replace n2 := cell_keep b5 n2
    replace t0 := cell_keep b5 t0
    replace t1 := cell_keep b5 t1
    replace sl := sl.keep b5 (Nat.le_refl _)
    replace so := so.keep b5 (Nat.le_refl _)
    have B5 := chain B4 b5
    clear lg lg2 lgw
    obtain ⟨b_, off_, y, eA, hb_, hy, hcl⟩ := sl.cells (k := n) hn
    obtain rfl : y = x := by have := hy.out.symm.trans HX.out; injection this
    have d3 : W4.cell? ⟨b_, off_ + n * 6 + 3, none⟩ = some (.int .i64 y.takes) := hcl 3 _ rfl
    subst eA
    clear hcl hy
    have hsum : IntKind.i64.wrap (sd + y.takes) = ed := by rw [IntWalk.i64_in _ (by have := SD.out; omega)]; exact ED.out.symm
    have nq : ¬ sd < q := by omega
    have nqb : decide (sd < q) = false := decide_eq_false nq
    have n0i : (0 : Int) ≤ (n : Int) := by omega
    have n1i : (n : Int) < (legs.length : Int) := by omega
    go_wp2_with fail
    obtain ⟨wt, rfl⟩ : ∃ wt : World, wt = W4 := ⟨_, rfl⟩
    have BT : Below wt.heap.size wt wt := Below.refl _ _
    have CT9 := fun (Q : World) (hq : Below wt.heap.size wt Q) => (CT Q (sl.keep hq (Nat.le_refl _)) (so.keep hq (Nat.le_refl _))).mono (fun e w' (h : _ ∧ _) => (⟨h.1, h.2, chain hq h.2⟩ : _ ∧ _ ∧ Below wt.heap.size wt w'))
    have CA9 := fun (Q : World) (hq : Below wt.heap.size wt Q) => (CA Q (sl.keep hq (Nat.le_refl _)) (so.keep hq (Nat.le_refl _))).mono (fun e w' (h : _ ∧ _) => (⟨h.1, h.2, chain hq h.2⟩ : _ ∧ _ ∧ Below wt.heap.size wt w'))
    have CE9 := fun (Q : World) (hq : Below wt.heap.size wt Q) => (CE Q (sl.keep hq (Nat.le_refl _)) (so.keep hq (Nat.le_refl _))).mono (fun e w' (h : _ ∧ _) => (⟨h.1, h.2, chain hq h.2⟩ : _ ∧ _ ∧ Below wt.heap.size wt w'))
    go_region_held3 (fun Q => Q.cell? ⟨g, 0, none⟩ = some (.slice (some ⟨b_, off_, none⟩) legs.length cl) ∧ Q.cell? ⟨g, 1, none⟩ = some (.slice Ao off.length co) ∧ Q.cell? ⟨g, 2, none⟩ = some (.int .i64 ch) ∧ Q.cell? ⟨g2, 0, none⟩ = some (.int .i64 (n : Int)) ∧ Q.cell? ⟨g2, 1, none⟩ = some (.int .i64 (D : Int)) ∧ Q.cell? ⟨b_, off_ + n * 6 + 3, none⟩ = some (.int .i64 y.takes) ∧ Below wt.heap.size wt Q) (((try go_split_ands); refine ⟨?_, ?_, ?_, ?_, ?_, ?_, ?_⟩ <;> first | assumption | (apply Below.drew; assumption) | (apply cell_keep <;> assumption) | (apply chain' <;> assumption))) (first | (go_at_call 14; (try go_split_ands); refine (CT9 _ (by assumption)).mono ?_; rintro e w8 ⟨rfl, b8, q8⟩) | (go_at_call 20; (try go_split_ands); refine (CA9 _ (by assumption)).mono ?_; rintro e w8 ⟨rfl, b8, q8⟩) | (go_at_call 15; (try go_split_ands); refine (CE9 _ (by assumption)).mono ?_; rintro e w8 ⟨rfl, b8, q8⟩))
    all_goals
      (try go_split_ands)
      replace n0 := cell_keep q8 n0
      replace n1 := cell_keep q8 n1
      replace n2 := cell_keep q8 n2
      replace t0 := cell_keep q8 t0
      replace t1 := cell_keep q8 t1
      replace sl := sl.keep q8 (Nat.le_refl _)
      replace so := so.keep q8 (Nat.le_refl _)
      have B9 := chain B5 q8
      clear d3 CT9 CA9 CE9 BT b8
      go_wp2_with fail
      go_loopw [11] (fun dv wr => ∃ k : Nat, 0 ≤ k ∧ k ≤ D ∧ dv = .int .i64 k ∧ wr.cell? ⟨g, 0, none⟩ = some (.slice (some ⟨b_, off_, none⟩) legs.length cl) ∧ wr.cell? ⟨g, 1, none⟩ = some (.slice Ao off.length co) ∧ wr.cell? ⟨g, 2, none⟩ = some (.int .i64 ch) ∧ wr.cell? ⟨g2, 0, none⟩ = some (.int .i64 (n : Int)) ∧ wr.cell? ⟨g2, 1, none⟩ = some (.int .i64 (D : Int)) ∧ SliceOf wr 6 LegD.vals (.slice (some ⟨b_, off_, none⟩) legs.length cl) legs ∧ SliceOf wr 1 vI (.slice Ao off.length co) off ∧ Below w.heap.size w wr) (fun dv _ => D - (intOf dv).toNat)
      case atStart => exact ⟨0, by omega, by omega, by first | rfl | go_num, n0, n1, n2, t0, t1, sl, so, B9⟩
      case round =>
        clear n0 n1 n2 t0 t1 sl so B9
        obtain ⟨k, hkF, hk, rfl, n0, n1, n2, t0, t1, sl, so, hB⟩ := hrel
        by_cases hlt : k < D
        · skip
          have hle : (k : Int) ≤ (D : Int) - 1 := by omega
          go_wp2_with fail
          obtain ⟨R, hR⟩ : ∃ R, R = runsOnB legs off ch (n : Int) (k : Int) := ⟨_, rfl⟩
          have CR := runsOnI legs off ch (n : Int) (k : Int) _ _ wr hok oleg (by unfold okI; omega) sl so
          rw [← hR] at CR
          have HR := Lib.hid hR; clear hR
          refine CR.mono ?_
          rintro e w16 ⟨rfl, b16⟩
          clear CR
          replace n0 := cell_keep b16 n0
          replace n1 := cell_keep b16 n1
          replace n2 := cell_keep b16 n2
          replace t0 := cell_keep b16 t0
          replace t1 := cell_keep b16 t1
          replace sl := sl.keep b16 (Nat.le_refl _)
          replace so := so.keep b16 (Nat.le_refl _)
          have B16 := chain hB b16
          cases R
          · go_wp2_with fail
            go_roundw
            case rel => exact ⟨k + 1, by omega, by omega, by go_num, n0, n1, n2, t0, t1, sl, so, B16⟩
            case measure => simp [intOf]; omega
          · obtain ⟨sk, hsk⟩ : ∃ z, z = startT legs (n : Int) (k : Int) := ⟨_, rfl⟩
            have CK := startsAtI legs off ch (n : Int) (k : Int) _ _ w16 hok oleg (by unfold okI; omega) sl so
            rw [← HR.out, ← hsk] at CK
            have hlt2 : sk < q := by rw [hsk]; exact HNO.out k (by omega) HR.out.symm
            have hnq : ¬ q ≤ sk := by omega
            clear hsk
            go_wp2_with fail
            refine CK.mono ?_
            rintro e w17 ⟨rfl, b17⟩
            clear CK
            replace n0 := cell_keep b17 n0
            replace n1 := cell_keep b17 n1
            replace n2 := cell_keep b17 n2
            replace t0 := cell_keep b17 t0
            replace t1 := cell_keep b17 t1
            replace sl := sl.keep b17 (Nat.le_refl _)
            replace so := so.keep b17 (Nat.le_refl _)
            have B17 := chain B16 b17
            simp only [cond_true]
            go_wp2_with fail
            go_roundw
            case rel => exact ⟨k + 1, by omega, by omega, by go_num, n0, n1, n2, t0, t1, sl, so, B17⟩
            case measure => simp [intOf]; omega
        · obtain rfl : D = k := by omega
          have h61 : ¬ (D : Int) ≤ (D : Int) - 1 := by omega
          go_wp2_with fail
          obtain ⟨wt, rfl⟩ : ∃ wt : World, wt = wr := ⟨_, rfl⟩
          have lg : g < wt.heap.size := cell_lt n0
          have lg2 : g2 < wt.heap.size := cell_lt t0
          have ng : g ≠ wt.heap.size := Nat.ne_of_lt lg
          have ng2 : g2 ≠ wt.heap.size := Nat.ne_of_lt lg2
          have zt : wt.heap.size ≤ wt.heap.size := Nat.le_refl _
          have BT : Below wt.heap.size wt wt := Below.refl _ _
          have CA9 := fun (Q : World) (hq : Below wt.heap.size wt Q) => (CA Q (sl.keep hq (Nat.le_refl _)) (so.keep hq (Nat.le_refl _))).mono (fun e w' (h : _ ∧ _) => (⟨h.1, h.2, chain hq h.2⟩ : _ ∧ _ ∧ Below wt.heap.size wt w'))
          have CU9 := fun (Q : World) (hq : Below wt.heap.size wt Q) => (CU Q (sl.keep hq (Nat.le_refl _)) (so.keep hq (Nat.le_refl _))).mono (fun e w' (h : _ ∧ _) => (⟨h.1, h.2, chain hq h.2⟩ : _ ∧ _ ∧ Below wt.heap.size wt w'))
          have QA : Below wt.heap.size wt ((wt.alloc (.cells #[.int .i64 0, .int .i64 0] 39)).drew) := (below_allocTNext BT).drew
          have CA8 := CA9 ((wt.alloc (.cells #[.int .i64 0, .int .i64 0] 39)).drew) QA
          have HCA8 := Lib.hid CA8; clear CA8 QA
          have na0 : ((wt.alloc (.cells #[.int .i64 0, .int .i64 0] 39)).drew).cell? ⟨wt.heap.size, 0, none⟩ = some (.int .i64 0) := (newcNext wt 0 0).1
          have na1 : ((wt.alloc (.cells #[.int .i64 0, .int .i64 0] 39)).drew).cell? ⟨wt.heap.size, 1, none⟩ = some (.int .i64 0) := (newcNext wt 0 0).2
          have naf : ∀ i, ((wt.alloc (.cells #[.int .i64 0, .int .i64 0] 39)).drew).frozen? ⟨wt.heap.size, i, none⟩ = false := newfNext wt 0 0
          have HNA0 := Lib.hid na0; have HNA1 := Lib.hid na1; have HNAF := Lib.hid naf; clear na0 na1 naf
          go_region_held3 (fun Q => Q.cell? ⟨g, 0, none⟩ = some (.slice (some ⟨b_, off_, none⟩) legs.length cl) ∧ Q.cell? ⟨g, 1, none⟩ = some (.slice Ao off.length co) ∧ Q.cell? ⟨g, 2, none⟩ = some (.int .i64 ch) ∧ Q.cell? ⟨g2, 0, none⟩ = some (.int .i64 (n : Int)) ∧ Q.cell? ⟨g2, 1, none⟩ = some (.int .i64 (D : Int)) ∧ Below wt.heap.size wt Q) (((try go_split_ands); refine ⟨?_, ?_, ?_, ?_, ?_, ?_⟩ <;> first | assumption | (apply Below.drew; assumption) | (apply cell_keep <;> assumption) | (apply cell_keep (go_alloc_belowNext _ _); assumption) | (apply cell_farN; assumption; apply cell_farN; assumption; assumption) | (apply below_allocTNext; assumption) | (apply Below.drew; apply below_allocTNext; assumption) | (apply below_allocHNext; assumption) | (apply below_setTNext; assumption; apply below_setTNext; assumption; assumption) | (apply chain' <;> assumption))) (first | (go_at_call 20; (with_reducible refine HCA8.out.mono ?_); rintro e w8 ⟨rfl, b8, q8⟩; have HD0 := Lib.hid (cell_keep b8 HNA0.out); have HD1 := Lib.hid (cell_keep b8 HNA1.out); have HDF : Hid (∀ i, w8.frozen? ⟨wt.heap.size, i, none⟩ = false) := Lib.hid (fun i => (b8.frozen (p := ⟨wt.heap.size, i, none⟩) (cell_lt HNA0.out)).trans (HNAF.out i)); have z8 := q8.size; have ng8 : g ≠ w8.heap.size := Nat.ne_of_lt (Nat.lt_of_lt_of_le lg z8); have ng82 : g2 ≠ w8.heap.size := Nat.ne_of_lt (Nat.lt_of_lt_of_le lg2 z8)) | (go_at_call 20; (try go_split_ands); refine (CA9 _ (by assumption)).mono ?_; rintro e w8 ⟨rfl, b8, q8⟩; have z8 := q8.size; have ng8 : g ≠ w8.heap.size := Nat.ne_of_lt (Nat.lt_of_lt_of_le lg z8); have ng82 : g2 ≠ w8.heap.size := Nat.ne_of_lt (Nat.lt_of_lt_of_le lg2 z8)) | (go_at_call 18; (try go_split_ands); refine (CU9 _ (by assumption)).mono ?_; rintro e w9 ⟨rfl, b9, q9⟩; (first | (have f0 : w9.cell? ⟨wt.heap.size, 0, none⟩ = some (.int .i64 0) := cell_keep b9 (cell_keep b8 (newcNext wt 0 0).1)) | (have f0 : w9.cell? ⟨wt.heap.size, 0, none⟩ = some (.int .i64 0) := cell_keep b9 (cell_keep b8 (newcNext wt.drew 0 0).1)) | skip); (first | (have f1 : w9.cell? ⟨wt.heap.size, 1, none⟩ = some (.int .i64 0) := cell_keep b9 (cell_keep b8 (newcNext wt 0 0).2)) | (have f1 : w9.cell? ⟨wt.heap.size, 1, none⟩ = some (.int .i64 0) := cell_keep b9 (cell_keep b8 (newcNext wt.drew 0 0).2)) | skip); (first | (have ff := ef2_ofNext b8 b9) | skip); (first | (have e0 : w9.cell? ⟨w8.heap.size, 0, none⟩ = some (.int .i64 0) := cell_keep b9 (newcNext w8 0 0).1) | skip); (first | (have e1 : w9.cell? ⟨w8.heap.size, 1, none⟩ = some (.int .i64 0) := cell_keep b9 (newcNext w8 0 0).2) | skip); (first | (have ef := ef_ofNext b9) | skip); have h9 := Lib.hid q9; have z9 := q9.size; have x0 := cell_keep q9 n0; have x1 := cell_keep q9 n1; have x2 := cell_keep q9 n2; have y0 := cell_keep q9 t0; have y1 := cell_keep q9 t1; have ng9 : g ≠ w9.heap.size := Nat.ne_of_lt (Nat.lt_of_lt_of_le lg z9); have ng92 : g2 ≠ w9.heap.size := Nat.ne_of_lt (Nat.lt_of_lt_of_le lg2 z9)))
          all_goals
            (try go_split_ands)
            go_wp2_with fail
            go_ret
            exact ⟨rfl, chain hB (by assumption)⟩
end Go.Proofs.Ytdnakeogofgpaaa
