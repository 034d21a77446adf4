/- What ParseLeg answers: the program's and the reference's alike. No condition. -/
import Derived.Test.YtemlgfbfomkdaaaDoorLegLaw
import Derived.Test.YtemlgfbfomkdaaaDoorClock
import Derived.Test.YtemlgfbfomkdaaaDoorSplit
import Derived.Test.YtemlgfbfomkdaaaDoorCutKit
import Derived.Test.YtemlgfbfomkdaaaDoorBoxes
import Derived.RegionTactic
import Derived.Lib.Hide
namespace Go.Proofs.YtemlgfbfomkdaaaDoor
open Go.RowKit Go.PlainAid
open Go.Lib (itoa decDigits decDigits_two)
set_option maxRecDepth 100000
set_option linter.unusedVariables false
/-- A leg read, or none. -/
def LegPost (l : List UInt8) (w : World) (e : Ending) (w' : World) : Prop :=
  ∃ (d : LegD) (ok : Bool), e = .returned (.tuple #[.agg #[.string d.src, .string d.dst, .int .i64 d.start, .int .i64 d.takes, .int .i64 d.days, .int .i64 d.room], .bool ok]) ∧ Hid (IsLegT l d ok) ∧ Below w.heap.size w w'
/-- A slice of five texts. -/
theorem five_cells {w : World} {v : Value} {xs : List ByteArray} (sl : SliceOf w 1 vS v xs) (h : xs.length = 5) : ∃ (a b c f g : ByteArray) (b_ off cap : Nat), xs = [a, b, c, f, g] ∧ v = .slice (some ⟨b_, off, none⟩) 5 cap ∧ 5 ≤ cap ∧ cap ≤ maxLen ∧
    w.cell? ⟨b_, off, none⟩ = some (.string a) ∧ w.cell? ⟨b_, off + 1, none⟩ = some (.string b) ∧ w.cell? ⟨b_, off + 2, none⟩ = some (.string c) ∧ w.cell? ⟨b_, off + 3, none⟩ = some (.string f) ∧ w.cell? ⟨b_, off + 4, none⟩ = some (.string g) := by
  match xs, h with
  | [a, b, c, f, g], _ =>
    obtain ⟨A, cap, rfl, h1, h2, hh⟩ := sl
    obtain ⟨b_, off, rfl, hb_, hc⟩ := hh (by simp)
    refine ⟨a, b, c, f, g, b_, off, cap, rfl, rfl, h1, h2, ?_, ?_, ?_, ?_, ?_⟩
    · simpa using hc 0 a 0 _ rfl rfl
    · simpa using hc 1 b 0 _ rfl rfl
    · simpa using hc 2 c 0 _ rfl rfl
    · simpa using hc 3 f 0 _ rfl rfl
    · simpa using hc 4 g 0 _ rfl rfl
theorem dayV_on (l : List UInt8) {k : Nat} (h : (l[k]?).getD 0 = 49) : dayV l (k + 1) = dayV l k + 2 ^ k := by
  show dayV l k + (if (l[k]?).getD 0 = 49 then 2 ^ k else 0) = _
  rw [if_pos h]
theorem dayV_off (l : List UInt8) {k : Nat} (h : (l[k]?).getD 0 ≠ 49) : dayV l (k + 1) = dayV l k := by
  show dayV l k + (if (l[k]?).getD 0 = 49 then 2 ^ k else 0) = _
  rw [if_neg h]; omega
theorem dayV_127 (l : List UInt8) {k : Nat} (h : k ≤ 7) : 0 ≤ dayV l k ∧ dayV l k ≤ 127 := by
  have := dayV_bd l k
  have h2 : (2 : Int) ^ k ≤ 128 := by
    rcases (show k = 0 ∨ k = 1 ∨ k = 2 ∨ k = 3 ∨ k = 4 ∨ k = 5 ∨ k = 6 ∨ k = 7 by omega) with rfl | rfl | rfl | rfl | rfl | rfl | rfl | rfl <;> decide
  omega
theorem day_wrap {dv : Int} {k : Nat} (hk : k < 7) (h0 : 0 ≤ dv) (h1 : dv ≤ 127) : wrap64 (dv + wrap64 (2 ^ k)) = dv + 2 ^ k := by
  have e : ∃ x : Int, (2 : Int) ^ k = x ∧ 0 ≤ x ∧ x ≤ 64 := by
    rcases (show k = 0 ∨ k = 1 ∨ k = 2 ∨ k = 3 ∨ k = 4 ∨ k = 5 ∨ k = 6 by omega) with rfl | rfl | rfl | rfl | rfl | rfl | rfl <;> exact ⟨_, rfl, by decide, by decide⟩
  obtain ⟨x, e, x0, x1⟩ := e
  rw [e]; unfold wrap64; omega
theorem LegPost.of {l : List UInt8} {w w' : World} {d : LegD} {ok : Bool} (h : IsLegT l d ok) (b : Below w.heap.size w w') : LegPost l w (.returned (.tuple #[.agg #[.string d.src, .string d.dst, .int .i64 d.start, .int .i64 d.takes, .int .i64 d.days, .int .i64 d.room], .bool ok])) w' := ⟨d, ok, rfl, h, b⟩
set_option maxHeartbeats 6400000 in
theorem parseLegI (s : ByteArray) (w : World) (hs : s.size ≤ 16777216) (h : Errs w) (hm : MaxL w) : Calls Tryd.prog 12 #[.string s] w (LegPost s.data.toList w) := by
  have hl := data_len s
  have hs' : s.data.toList.length ≤ 16777216 := by omega
  clear hl
  go_enter Tryd.func12, Tryd.ntmps12
  go_wp2_with fail
  obtain ⟨W, hW⟩ : ∃ W, W = w.alloc (.cells #[.string ⟨#[]⟩, .string ⟨#[]⟩, .int .i64 0, .int .i64 0, .int .i64 0, .int .i64 0] 30) := ⟨_, rfl⟩
  try rw [← hW]
  have P : Box W w.heap.size 30 #[.string ⟨#[]⟩, .string ⟨#[]⟩, .int .i64 0, .int .i64 0, .int .i64 0, .int .i64 0] := by rw [hW]; exact Box.new _ _ _
  have bW : Below w.heap.size w W := by rw [hW]; go_grown
  clear hW
  have HW := h.keep bW
  have MW := hm.keep bW
  refine (splitI s 32 _ MW hs).mono ?_
  rintro e w1 ⟨v, xs, rfl, sl, HS, hx, b1⟩
  have B1 := chain bW b1
  have H1 := HW.keep b1
  have M1 := MW.keep b1
  replace P := P.keep b1
  clear HW MW bW b1
  by_cases h5 : xs.length = 5
  · obtain ⟨a, b, c, f, g, b_, off, cap, rfl, rfl, hcap, hcap2, x0, x1, x2, x3, x4⟩ := five_cells sl h5
    unfold maxLen at hcap2
    have za : a.size ≤ 16777216 := Nat.le_trans (hx a (by simp)) hs'
    have zb : b.size ≤ 16777216 := Nat.le_trans (hx b (by simp)) hs'
    have zc : c.size ≤ 16777216 := Nat.le_trans (hx c (by simp)) hs'
    have zf : f.size ≤ 16777216 := Nat.le_trans (hx f (by simp)) hs'
    have zg : g.size ≤ 16777216 := Nat.le_trans (hx g (by simp)) hs'
    have HS5 : Hid (IsSplit 32 s.data.toList [a.data.toList, b.data.toList, c.data.toList, f.data.toList, g.data.toList]) := HS
    clear HS sl hx h5
    by_cases h7 : f.size = 7
    · have q7 : ((f.size : Int) != 7) = false := by rw [h7]; rfl
      have H7 := Lib.hid h7; clear h7
      go_wp2_with fail
      refine (readClockI b _ (by unfold maxLen; omega) H1.1).mono ?_
      rintro e w2 ⟨m, rfl, HM, m0, m1, b2⟩
      have B2 := chain B1 b2
      have H2 := H1.keep b2
      have M2 := M1.keep b2
      replace P := P.keep b2
      replace x0 := cell_keep b2 x0
      replace x2 := cell_keep b2 x2
      replace x3 := cell_keep b2 x3
      replace x4 := cell_keep b2 x4
      clear x1 H1 M1 B1 b2
      have ne0 : b_ < w2.heap.size := cell_lt x0
      go_wp2_with fail
      clear ne0
      obtain ⟨V, hV⟩ : ∃ V, V = w2.alloc (.cells #[.string ⟨#[]⟩, .string ⟨#[]⟩, .int .i64 m, .int .i64 0, .int .i64 0, .int .i64 0] 30) := ⟨_, rfl⟩
      rw [← hV]
      obtain ⟨q, hq⟩ : ∃ q, q = w2.heap.size := ⟨_, rfl⟩
      rw [← hq]
      have L : Box V q 30 #[.string ⟨#[]⟩, .string ⟨#[]⟩, .int .i64 m, .int .i64 0, .int .i64 0, .int .i64 0] := by rw [hV, hq]; exact Box.new _ _ _
      have bV : Below w2.heap.size w2 V := by rw [hV]; go_grown
      have nq : w.heap.size < q := by rw [hq]; exact P.lt
      replace P := P.keep bV
      have nb : b_ < q := by rw [hq]; exact cell_lt x0
      replace x0 := cell_keep bV x0
      replace x2 := cell_keep bV x2
      replace x3 := cell_keep bV x3
      replace x4 := cell_keep bV x4
      replace B2 := chain B2 bV
      replace H2 := H2.keep bV
      replace M2 := M2.keep bV
      have nb' : b_ ≠ q := by omega
      clear hV hq bV nb
      obtain ⟨sa, hsa⟩ : ∃ sa : ByteArray, sa = ⟨(Go.Lib.cut a.data.toList [45]).1.toArray⟩ := ⟨_, rfl⟩
      obtain ⟨sb, hsb⟩ : ∃ sb : ByteArray, sb = ⟨(Go.Lib.cut a.data.toList [45]).2.1.toArray⟩ := ⟨_, rfl⟩
      obtain ⟨z1, z2⟩ := lib_cut_len a.data.toList 45
      have zsa : sa.size ≤ 16777216 := by rw [← data_len, hsa]; show _ ≤ _; rw [data_len] at z1; exact Nat.le_trans z1 za
      have zsb : sb.size ≤ 16777216 := by rw [← data_len, hsb]; show _ ≤ _; rw [data_len] at z2; exact Nat.le_trans z2 za
      have HA : Hid (∀ x y : ByteArray, plc x = true → plc y = true → a.data.toList = x.data.toList ++ 45 :: y.data.toList → sa = x ∧ sb = y) := Lib.hid (by
        intro x y px py e
        rw [hsa, hsb]; exact cut_src px e)
      have CC := cut_at a 45 V M2 za
      rw [← hsa, ← hsb] at CC
      clear hsa hsb z1 z2
      refine CC.mono ?_
      rintro e w3 ⟨rfl, b3⟩
      clear CC
      have B3 := chain B2 b3
      have H3 := H2.keep b3
      replace P := P.keep b3
      replace L := L.keep b3
      replace x2 := cell_keep b3 x2
      replace x3 := cell_keep b3 x3
      replace x4 := cell_keep b3 x4
      clear x0 H2 M2 B2 b3
      have l0 : w3.cell? ⟨q, 0, none⟩ = some (.string ⟨#[]⟩) := L.cell 0
      have l1 : w3.cell? ⟨q, 1, none⟩ = some (.string ⟨#[]⟩) := L.cell 1
      have lf : ∀ j, w3.frozen? ⟨q, j, none⟩ = false := fun j => L.frozen j
      go_wp2_with fail
      obtain ⟨U, hU⟩ : ∃ U, U = (w3.setCell ⟨q, 0, none⟩ (.string sa)).setCell ⟨q, 1, none⟩ (.string sb) := ⟨_, rfl⟩
      rw [← hU]
      have bU : Below w.heap.size w U := by rw [hU]; repeat' (first | with_reducible exact B3 | with_reducible refine Below.setCell ?_ ?_ _ | (simp only; omega))
      have ne0 : ∀ j : Nat, (⟨q, 0, none⟩ : Addr) ≠ ⟨b_, j, none⟩ := fun j h => nb' (by injection h with h; exact h.symm)
      have ne1 : ∀ j : Nat, (⟨q, 1, none⟩ : Addr) ≠ ⟨b_, j, none⟩ := fun j h => nb' (by injection h with h; exact h.symm)
      replace L : Box U q 30 #[.string sa, .string sb, .int .i64 m, .int .i64 0, .int .i64 0, .int .i64 0] := by rw [hU]; exact (L.set 0 _).set 1 _
      replace P : Box U w.heap.size 30 #[.string ⟨#[]⟩, .string ⟨#[]⟩, .int .i64 0, .int .i64 0, .int .i64 0, .int .i64 0] := by rw [hU]; exact (P.far (p := ⟨q, 0, none⟩) (by simp only; omega) _).far (p := ⟨q, 1, none⟩) (by simp only; omega) _
      replace x2 : U.cell? ⟨b_, off + 2, none⟩ = some (.string c) := by rw [hU]; simp [go_sem, x2]
      replace x3 : U.cell? ⟨b_, off + 3, none⟩ = some (.string f) := by rw [hU]; simp [go_sem, x3]
      replace x4 : U.cell? ⟨b_, off + 4, none⟩ = some (.string g) := by rw [hU]; simp [go_sem, x4]
      clear hU l0 l1 lf B3 H3 ne0 ne1
      have ne0 : b_ < U.heap.size := cell_lt x2
      go_wp2_with fail
      refine (parseI c _ (by omega) (h.keep bU)).mono ?_
      rintro e w4 ⟨n, ok4, rfl, HN, n0, n1, b4⟩
      have B4 := chain bU b4
      replace P := P.keep b4
      replace L := L.keep b4
      replace x3 := cell_keep b4 x3
      replace x4 := cell_keep b4 x4
      clear x2 bU b4 ne0
      have l3 : w4.cell? ⟨q, 3, none⟩ = some (.int .i64 0) := L.cell 3
      have lf : ∀ j, w4.frozen? ⟨q, j, none⟩ = false := fun j => L.frozen j
      go_wp2_with fail
      obtain ⟨X, hX⟩ : ∃ X, X = w4.setCell ⟨q, 3, none⟩ (.int .i64 n) := ⟨_, rfl⟩
      rw [← hX]
      have bX : Below w.heap.size w X := by rw [hX]; exact B4.setCell (by simp only; omega) _
      replace L : Box X q 30 #[.string sa, .string sb, .int .i64 m, .int .i64 n, .int .i64 0, .int .i64 0] := by rw [hX]; exact L.set 3 _
      replace P : Box X w.heap.size 30 #[.string ⟨#[]⟩, .string ⟨#[]⟩, .int .i64 0, .int .i64 0, .int .i64 0, .int .i64 0] := by rw [hX]; exact P.far (p := ⟨q, 3, none⟩) (by simp only; omega) _
      replace x3 : X.cell? ⟨b_, off + 3, none⟩ = some (.string f) := by rw [hX]; simp [go_sem, x3]
      replace x4 : X.cell? ⟨b_, off + 4, none⟩ = some (.string g) := by rw [hX]; simp [go_sem, x4]
      clear hX l3 lf B4
      refine (parseI g _ (by omega) (h.keep bX)).mono ?_
      rintro e w5 ⟨r, ok5, rfl, HR, r0, r1, b5⟩
      have B5 := chain bX b5
      replace P := P.keep b5
      replace L := L.keep b5
      replace x3 := cell_keep b5 x3
      clear x4 bX b5
      have l5 : w5.cell? ⟨q, 5, none⟩ = some (.int .i64 0) := L.cell 5
      have lf : ∀ j, w5.frozen? ⟨q, j, none⟩ = false := fun j => L.frozen j
      go_wp2_with fail
      obtain ⟨Y, hY⟩ : ∃ Y, Y = w5.setCell ⟨q, 5, none⟩ (.int .i64 r) := ⟨_, rfl⟩
      rw [← hY]
      have bY : Below w.heap.size w Y := by rw [hY]; exact B5.setCell (by simp only; omega) _
      replace L : Box Y q 30 #[.string sa, .string sb, .int .i64 m, .int .i64 n, .int .i64 0, .int .i64 r] := by rw [hY]; exact L.set 5 _
      replace P : Box Y w.heap.size 30 #[.string ⟨#[]⟩, .string ⟨#[]⟩, .int .i64 0, .int .i64 0, .int .i64 0, .int .i64 0] := by rw [hY]; exact P.far (p := ⟨q, 5, none⟩) (by simp only; omega) _
      replace x3 : Y.cell? ⟨b_, off + 3, none⟩ = some (.string f) := by rw [hY]; simp [go_sem, x3]
      clear hY l5 lf B5
      go_loopw [6] (fun iv wr => ∃ k : Nat, k ≤ 7 ∧ iv = .int .i64 k ∧ Box wr w.heap.size 30 #[.string ⟨#[]⟩, .string ⟨#[]⟩, .int .i64 0, .int .i64 0, .int .i64 0, .int .i64 0] ∧ Box wr q 30 #[.string sa, .string sb, .int .i64 m, .int .i64 n, .int .i64 (dayV f.data.toList k), .int .i64 r] ∧ wr.cell? ⟨b_, off + 3, none⟩ = some (.string f) ∧ Below w.heap.size w wr) (fun iv _ => 7 - (intOf iv).toNat)
      case atStart => exact ⟨0, by omega, rfl, P, L, x3, bY⟩
      case round =>
        clear P L x3 bY
        obtain ⟨k, hk, rfl, P, L, x3, hb⟩ := hrel
        have lf : ∀ j, wr.frozen? ⟨q, j, none⟩ = false := fun j => L.frozen j
        by_cases hlt : k < 7
        · have F7 := H7.out
          have hlt' : (k : Int) < 7 := by omega
          have hks : k < f.size := by omega
          have hks' : (k : Int) < (f.size : Int) := by omega
          have hk0 : (0 : Int) ≤ (k : Int) := by omega
          have hg := get_letter f hks
          obtain ⟨x, hx⟩ : ∃ x : UInt8, x = f[k] := ⟨_, rfl⟩
          have hgetx : ∀ h : k < f.size, f[k]'h = x := fun _ => hx.symm
          rw [← hx] at hg
          have HG := Lib.hid hg; clear hg hx F7
          obtain ⟨l0, l1⟩ := dayV_127 f.data.toList hk
          have l4 : wr.cell? ⟨q, 4, none⟩ = some (.int .i64 (dayV f.data.toList k)) := L.cell 4
          generalize hdv : dayV f.data.toList k = dv at l0 l1 l4 L
          have HV := Lib.hid hdv; clear hdv
          have ne0 : b_ < wr.heap.size := cell_lt x3
          by_cases h1 : x = 49
          · subst h1
            go_wp2_with fail
            go_region
            go_wp2_with fail
            go_roundw
            case rel =>
              have hw := day_wrap hlt l0 l1
              rw [hw]
              refine ⟨k + 1, by omega, by go_num, ?_, ?_, ?_, ?_⟩
              · exact Box.drew (P.far (p := ⟨q, 4, none⟩) (by simp only; omega) _)
              · rw [dayV_on _ HG.out, HV.out]
                exact Box.drew (L.set 4 _)
              · have e : (wr.setCell ⟨q, 4, none⟩ (.int .i64 (dv + 2 ^ k))).cell? ⟨b_, off + 3, none⟩ = some (.string f) := by simp [go_sem, x3]
                exact e
              · exact (hb.setCell (by simp only; omega) _).drew
            case measure => simp [intOf]; omega
          · have h1' : ((x.toNat : Int) == 49) = false := by
              simp only [beq_eq_false_iff_ne]
              intro e
              exact h1 (UInt8.toNat_inj.1 (by have : (49 : UInt8).toNat = 49 := rfl; omega))
            go_wp2_with fail
            go_roundw
            case rel => exact ⟨k + 1, by omega, by go_num, P, by rw [dayV_off _ (by rw [HG.out]; exact h1), HV.out]; exact L, x3, hb⟩
            case measure => simp [intOf]; omega
        · obtain rfl : k = 7 := by omega
          have hlt' : ¬ ((7 : Nat) : Int) < 7 := by omega
          have l0 : wr.cell? ⟨q, 0, none⟩ = some (.string sa) := L.cell 0
          have l1 : wr.cell? ⟨q, 1, none⟩ = some (.string sb) := L.cell 1
          have l2 : wr.cell? ⟨q, 2, none⟩ = some (.int .i64 m) := L.cell 2
          have l3 : wr.cell? ⟨q, 3, none⟩ = some (.int .i64 n) := L.cell 3
          have l4 : wr.cell? ⟨q, 4, none⟩ = some (.int .i64 (dayV f.data.toList 7)) := L.cell 4
          have l5 : wr.cell? ⟨q, 5, none⟩ = some (.int .i64 r) := L.cell 5
          generalize hdv : dayV f.data.toList 7 = dv at l4 L
          have HV := Lib.hid hdv; clear hdv
          go_wp2_with fail
          refine (legI sa sb m n dv r _ (by unfold maxLen; omega) (by unfold maxLen; omega) (h.keep hb).1).mono ?_
          rintro e w6 ⟨t, rfl, HT, hz, b6⟩
          clear hz l0 l1 l2 l3 l4 l5
          replace P := P.keep b6
          replace L := L.keep b6
          have B6 := chain hb b6
          have p0 : w6.cell? ⟨w.heap.size, 0, none⟩ = some (.string ⟨#[]⟩) := P.cell 0
          have p1 : w6.cell? ⟨w.heap.size, 1, none⟩ = some (.string ⟨#[]⟩) := P.cell 1
          have p2 : w6.cell? ⟨w.heap.size, 2, none⟩ = some (.int .i64 0) := P.cell 2
          have p3 : w6.cell? ⟨w.heap.size, 3, none⟩ = some (.int .i64 0) := P.cell 3
          have p4 : w6.cell? ⟨w.heap.size, 4, none⟩ = some (.int .i64 0) := P.cell 4
          have p5 : w6.cell? ⟨w.heap.size, 5, none⟩ = some (.int .i64 0) := P.cell 5
          have pf : ∀ j, w6.frozen? ⟨w.heap.size, j, none⟩ = false := fun j => P.frozen j
          have l0 : w6.cell? ⟨q, 0, none⟩ = some (.string sa) := L.cell 0
          have l1 : w6.cell? ⟨q, 1, none⟩ = some (.string sb) := L.cell 1
          have l2 : w6.cell? ⟨q, 2, none⟩ = some (.int .i64 m) := L.cell 2
          have l3 : w6.cell? ⟨q, 3, none⟩ = some (.int .i64 n) := L.cell 3
          have l4 : w6.cell? ⟨q, 4, none⟩ = some (.int .i64 dv) := L.cell 4
          have l5 : w6.cell? ⟨q, 5, none⟩ = some (.int .i64 r) := L.cell 5
          have LR : Hid (LegRead s.data.toList a.data.toList b.data.toList c.data.toList f.data.toList g.data.toList ⟨sa, sb, m, n, dv, r⟩) := Lib.hid ⟨HS5.out, HM.out, ⟨_, HN.out⟩, ⟨_, HR.out⟩, HV.out.symm, HA.out⟩
          clear HS5 HM HN HR HV HA
          cases hq : (t.toList == s.toList)
          · have HF := Lib.hid (leg_no LR.out (diff_list HT.out hq))
            have hq' : (t.toList != s.toList) = true := by simp [bne, hq]
            go_wp2_with fail
            refine bodyPost_ret (v := .tuple #[.agg #[.string ⟨#[]⟩, .string ⟨#[]⟩, .int .i64 0, .int .i64 0, .int .i64 0, .int .i64 0], .bool false]) (by simp [results, Tryd.results12, go_sem, p0, p1, p2, p3, p4, p5]) rfl (LegPost.of HF.out ?_)
            repeat' (first | with_reducible exact B6 | with_reducible refine Below.setCell ?_ ?_ _ | (simp only; omega))
          · have HF := Lib.hid (leg_yes (split_ne LR.out.1) (same_list HT.out hq))
            have hq' : (t.toList != s.toList) = false := by simp [bne, hq]
            go_wp2_with fail
            refine bodyPost_ret (v := .tuple #[.agg #[.string sa, .string sb, .int .i64 m, .int .i64 n, .int .i64 dv, .int .i64 r], .bool true]) (by simp [results, Tryd.results12, go_sem, p0, p1, p2, p3, p4, p5]) rfl (LegPost.of HF.out ?_)
            repeat' (first | with_reducible exact B6 | with_reducible refine Below.setCell ?_ ?_ _ | (simp only; omega))
    · have q7 : ((f.size : Int) != 7) = true := by simp; omega
      have HL := Lib.hid (leg_seven HS5.out (.inr (by rw [data_len]; exact h7)))
      have p0 : w1.cell? ⟨w.heap.size, 0, none⟩ = some (.string ⟨#[]⟩) := P.cell 0
      have p1 : w1.cell? ⟨w.heap.size, 1, none⟩ = some (.string ⟨#[]⟩) := P.cell 1
      have p2 : w1.cell? ⟨w.heap.size, 2, none⟩ = some (.int .i64 0) := P.cell 2
      have p3 : w1.cell? ⟨w.heap.size, 3, none⟩ = some (.int .i64 0) := P.cell 3
      have p4 : w1.cell? ⟨w.heap.size, 4, none⟩ = some (.int .i64 0) := P.cell 4
      have p5 : w1.cell? ⟨w.heap.size, 5, none⟩ = some (.int .i64 0) := P.cell 5
      have pf : ∀ j, w1.frozen? ⟨w.heap.size, j, none⟩ = false := fun j => P.frozen j
      go_wp2_with fail
      refine bodyPost_ret (v := .tuple #[.agg #[.string ⟨#[]⟩, .string ⟨#[]⟩, .int .i64 0, .int .i64 0, .int .i64 0, .int .i64 0], .bool false]) (by simp [results, Tryd.results12, go_sem, p0, p1, p2, p3, p4, p5]) rfl (LegPost.of HL.out ?_)
      repeat' (first | with_reducible exact B1 | with_reducible refine Below.setCell ?_ ?_ _ | (simp only; omega))
  · have HL := Lib.hid (leg_len HS.out (by simpa using h5))
    have h5' : ((xs.length : Int) != 5) = true := by simp; omega
    obtain ⟨A, cap, rfl, hcap, hcap2⟩ := sl.form
    unfold maxLen at hcap2
    have p0 : w1.cell? ⟨w.heap.size, 0, none⟩ = some (.string ⟨#[]⟩) := P.cell 0
    have p1 : w1.cell? ⟨w.heap.size, 1, none⟩ = some (.string ⟨#[]⟩) := P.cell 1
    have p2 : w1.cell? ⟨w.heap.size, 2, none⟩ = some (.int .i64 0) := P.cell 2
    have p3 : w1.cell? ⟨w.heap.size, 3, none⟩ = some (.int .i64 0) := P.cell 3
    have p4 : w1.cell? ⟨w.heap.size, 4, none⟩ = some (.int .i64 0) := P.cell 4
    have p5 : w1.cell? ⟨w.heap.size, 5, none⟩ = some (.int .i64 0) := P.cell 5
    have pf : ∀ j, w1.frozen? ⟨w.heap.size, j, none⟩ = false := fun j => P.frozen j
    go_wp2_with fail
    refine bodyPost_ret (v := .tuple #[.agg #[.string ⟨#[]⟩, .string ⟨#[]⟩, .int .i64 0, .int .i64 0, .int .i64 0, .int .i64 0], .bool false]) (by simp [results, Tryd.results12, go_sem, p0, p1, p2, p3, p4, p5]) rfl (LegPost.of HL.out ?_)
    repeat' (first | with_reducible exact B1 | with_reducible refine Below.setCell ?_ ?_ _ | (simp only; omega))
end Go.Proofs.YtemlgfbfomkdaaaDoor
