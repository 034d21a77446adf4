/- What FormatParcel answers: the program's and the reference's alike. No condition. -/
import Derived.Test.YteicnjemaemijaaGreatDoorParText
import Derived.Test.YteicnjemaemijaaGreatDoorStrKit
import Derived.Test.YteicnjemaemijaaGreatDoorBoxes
import Derived.Deep.RegionHeld3
namespace Go.Proofs.YteicnjemaemijaaGreatDoor
open Go.RowKit Go.PlainAid
open Go.Lib (itoa decDigits decDigits_two)
set_option maxRecDepth 100000
set_option linter.unusedVariables false
theorem three_list {xs : List Int} (h : three xs = true) : ∃ x y z : Int, xs = [x, y, z] ∧ (1 ≤ x ∧ x ≤ 2000) ∧ (1 ≤ y ∧ y ≤ 2000) ∧ (1 ≤ z ∧ z ≤ 2000) := three_of h
theorem three_cells {w : World} {V : Value} {x y z : Int} (sl : SliceOf w 1 vI V [x, y, z]) : ∃ (b off cap : Nat), V = .slice (some ⟨b, off, none⟩) 3 cap ∧ 3 ≤ cap ∧ cap ≤ maxLen ∧ w.cell? ⟨b, off, none⟩ = some (.int .i64 x) ∧ w.cell? ⟨b, off + 1, none⟩ = some (.int .i64 y) ∧ w.cell? ⟨b, off + 2, none⟩ = some (.int .i64 z) := by
  obtain ⟨A, cap, rfl, h1, h2, hh⟩ := sl
  obtain ⟨b, off, rfl, hb, hc⟩ := hh (by simp)
  exact ⟨b, off, cap, rfl, h1, h2, by simpa using hc 0 x 0 _ rfl rfl, by simpa using hc 1 y 0 _ rfl rfl, by simpa using hc 2 z 0 _ rfl rfl⟩
set_option maxHeartbeats 12800000 in
theorem parI (a b : Int) (t f : ByteArray) (wt : Int) (xs : List Int) (vl : Int) (V : Value) (w : World) (ht' : t.size ≤ maxLen) (hf : f.size ≤ maxLen) (sl : SliceOf w 1 vI V xs) (ht : Tabs w) : Calls Tryz.prog 12 #[.agg #[.int .i64 a, .int .i64 b, .string t, .string f, .int .i64 wt, V, .int .i64 vl]] w (SPost (parOf ⟨⟨a, b, t⟩, f, wt, xs, vl⟩) w) := by
  obtain ⟨A0, c0_, rfl, -, -⟩ := sl.form
  cases hg : parB a b t f wt xs vl
  · have hno := parOf_no (d := ⟨⟨a, b, t⟩, f, wt, xs, vl⟩) hg
    have HNO := Lib.hid hno; clear hno
    go_enter Tryz.func12, Tryz.ntmps12
    go_wp2_with fail
    obtain ⟨W, hW⟩ : ∃ W, W = w.alloc (.cells #[.int .i64 a, .int .i64 b, .string t, .string f, .int .i64 wt, .slice A0 xs.length c0_, .int .i64 vl] 26) := ⟨_, rfl⟩
    try rw [← hW]
    have bW : Below w.heap.size w W := by rw [hW]; go_grown
    have sW := sl.keep bW (Nat.le_refl _)
    clear hW
    have CP := isParcelI a b t f wt xs vl _ W ht' hf sW
    rw [hg] at CP
    clear hg
    refine CP.mono ?_
    rintro e w0 ⟨rfl, b0⟩
    clear CP
    go_wp2_with fail
    go_ret
    exact SPost.of HNO.out.symm (chain bW b0)
  · obtain ⟨p1, p2, p3, p4, p5⟩ := parG_iff (d := ⟨⟨a, b, t⟩, f, wt, xs, vl⟩) hg
    simp only at p1 p2 p3 p4 p5
    have hyes := parOf_yes (d := ⟨⟨a, b, t⟩, f, wt, xs, vl⟩) hg
    have HYES := Lib.hid hyes; clear hyes
    obtain ⟨x, y, z, rfl, hx, hy, hz⟩ := three_list p4
    obtain ⟨g, o, cap, hV, hcap, hcap2, s0, s1, s2⟩ := three_cells sl
    rw [hV] at sl ⊢
    clear hV
    unfold maxLen at hcap2
    go_enter Tryz.func12, Tryz.ntmps12
    go_wp2_with fail
    obtain ⟨W, hW⟩ : ∃ W, W = w.alloc (.cells #[.int .i64 a, .int .i64 b, .string t, .string f, .int .i64 wt, .slice (some ⟨g, o, none⟩) 3 cap, .int .i64 vl] 26) := ⟨_, rfl⟩
    try rw [← hW]
    have c0 : W.cell? ⟨w.heap.size, 0, none⟩ = some (.int .i64 a) := by rw [hW]; simp [go_sem]
    have c1 : W.cell? ⟨w.heap.size, 1, none⟩ = some (.int .i64 b) := by rw [hW]; simp [go_sem]
    have c2 : W.cell? ⟨w.heap.size, 2, none⟩ = some (.string t) := by rw [hW]; simp [go_sem]
    have c3 : W.cell? ⟨w.heap.size, 3, none⟩ = some (.string f) := by rw [hW]; simp [go_sem]
    have c4 : W.cell? ⟨w.heap.size, 4, none⟩ = some (.int .i64 wt) := by rw [hW]; simp [go_sem]
    have c5 : W.cell? ⟨w.heap.size, 5, none⟩ = some (.slice (some ⟨g, o, none⟩) 3 cap) := by rw [hW]; simp [go_sem]
    have c6 : W.cell? ⟨w.heap.size, 6, none⟩ = some (.int .i64 vl) := by rw [hW]; simp [go_sem]
    have bW : Below w.heap.size w W := by rw [hW]; go_grown
    have sW := sl.keep bW (Nat.le_refl _)
    clear hW
    have CP := isParcelI a b t f wt [x, y, z] vl _ W ht' hf sW
    rw [hg] at CP
    clear hg
    refine CP.mono ?_
    rintro e w0 ⟨rfl, b0⟩
    clear CP sW sl
    have hT := (ht.keep bW).keep b0
    replace bW := chain bW b0
    replace s0 := cell_keep bW s0
    replace s1 := cell_keep bW s1
    replace s2 := cell_keep bW s2
    replace c0 := cell_keep b0 c0
    replace c1 := cell_keep b0 c1
    replace c2 := cell_keep b0 c2
    replace c3 := cell_keep b0 c3
    replace c4 := cell_keep b0 c4
    replace c5 := cell_keep b0 c5
    replace c6 := cell_keep b0 c6
    clear b0
    have CF := fun (Q : World) (hQ : Tabs Q) => toEq (flabI a b t Q ht' hQ)
    rw [flabOf_yes (d := ⟨a, b, t⟩) p1] at CF
    have zL : (str (flabL ⟨a, b, t⟩)).size ≤ 21 := by rw [str_size, flab_len (d := ⟨a, b, t⟩) p1]; omega
    obtain ⟨L, hL⟩ : ∃ L, L = str (flabL ⟨a, b, t⟩) := ⟨_, rfl⟩
    rw [← hL] at CF zL
    have HL := Lib.hid hL; clear hL
    have HCF := Lib.hid CF; clear CF
    have zf : f.size ≤ 21 := by rw [(plc_iff.1 p2).1]; omega
    clear p1 p2 p4
    have zw : (str (itoa wt)).size ≤ 21 := by rw [str_size]; exact Lib.itoa_length_le _ (by omega) (by omega)
    have zx : (str (itoa x)).size ≤ 21 := by rw [str_size]; exact Lib.itoa_length_le _ (by omega) (by omega)
    have zy : (str (itoa y)).size ≤ 21 := by rw [str_size]; exact Lib.itoa_length_le _ (by omega) (by omega)
    have zz : (str (itoa z)).size ≤ 21 := by rw [str_size]; exact Lib.itoa_length_le _ (by omega) (by omega)
    have zv : (str (itoa vl)).size ≤ 21 := by rw [str_size]; exact Lib.itoa_length_le _ (by omega) (by omega)
    have z120 : (⟨#[120]⟩ : ByteArray).size = 1 := rfl
    have z32 : (⟨#[32]⟩ : ByteArray).size = 1 := rfl
    have k0 := fun wx : World => run_string_add_sum (P := Tryz.prog) wx (str (itoa x)) (⟨#[120]⟩) (by (repeat rw [ByteArray.size_append]); omega)
    have k1 := fun wx : World => run_string_add_sum (P := Tryz.prog) wx (str (itoa x) ++ ⟨#[120]⟩) (str (itoa y)) (by (repeat rw [ByteArray.size_append]); omega)
    have k2 := fun wx : World => run_string_add_sum (P := Tryz.prog) wx (str (itoa x) ++ ⟨#[120]⟩ ++ str (itoa y)) (⟨#[120]⟩) (by (repeat rw [ByteArray.size_append]); omega)
    have k3 := fun wx : World => run_string_add_sum (P := Tryz.prog) wx (str (itoa x) ++ ⟨#[120]⟩ ++ str (itoa y) ++ ⟨#[120]⟩) (str (itoa z)) (by (repeat rw [ByteArray.size_append]); omega)
    obtain ⟨T, hTt⟩ : ∃ T, T = str (itoa x) ++ ⟨#[120]⟩ ++ str (itoa y) ++ ⟨#[120]⟩ ++ str (itoa z) := ⟨_, rfl⟩
    have zT : T.size ≤ 70 := by rw [hTt]; (repeat rw [ByteArray.size_append]); omega
    have k4 := fun wx : World => run_string_add_sum (P := Tryz.prog) wx (L) (⟨#[32]⟩) (by (repeat rw [ByteArray.size_append]); omega)
    have k5 := fun wx : World => run_string_add_sum (P := Tryz.prog) wx (L ++ ⟨#[32]⟩) (f) (by (repeat rw [ByteArray.size_append]); omega)
    have k6 := fun wx : World => run_string_add_sum (P := Tryz.prog) wx (L ++ ⟨#[32]⟩ ++ f) (⟨#[32]⟩) (by (repeat rw [ByteArray.size_append]); omega)
    have k7 := fun wx : World => run_string_add_sum (P := Tryz.prog) wx (L ++ ⟨#[32]⟩ ++ f ++ ⟨#[32]⟩) (str (itoa wt)) (by (repeat rw [ByteArray.size_append]); omega)
    have k8 := fun wx : World => run_string_add_sum (P := Tryz.prog) wx (L ++ ⟨#[32]⟩ ++ f ++ ⟨#[32]⟩ ++ str (itoa wt)) (⟨#[32]⟩) (by (repeat rw [ByteArray.size_append]); omega)
    have k9 := fun wx : World => run_string_add_sum (P := Tryz.prog) wx (L ++ ⟨#[32]⟩ ++ f ++ ⟨#[32]⟩ ++ str (itoa wt) ++ ⟨#[32]⟩) (T) (by (repeat rw [ByteArray.size_append]); omega)
    have k10 := fun wx : World => run_string_add_sum (P := Tryz.prog) wx (L ++ ⟨#[32]⟩ ++ f ++ ⟨#[32]⟩ ++ str (itoa wt) ++ ⟨#[32]⟩ ++ T) (⟨#[32]⟩) (by (repeat rw [ByteArray.size_append]); omega)
    have k11 := fun wx : World => run_string_add_sum (P := Tryz.prog) wx (L ++ ⟨#[32]⟩ ++ f ++ ⟨#[32]⟩ ++ str (itoa wt) ++ ⟨#[32]⟩ ++ T ++ ⟨#[32]⟩) (str (itoa vl)) (by (repeat rw [ByteArray.size_append]); omega)
    have HTt := Lib.hid hTt; clear hTt
    clear z120 z32
    have ow : okI wt := by unfold okI; omega
    have ox : okI x := by unfold okI; omega
    have oy : okI y := by unfold okI; omega
    have oz : okI z := by unfold okI; omega
    have ov : okI vl := by unfold okI; omega
    go_wp2_with fail
    go_region_held3 (fun V => V.cell? ⟨w.heap.size, 0, none⟩ = some (.int .i64 a) ∧ V.cell? ⟨w.heap.size, 1, none⟩ = some (.int .i64 b) ∧ V.cell? ⟨w.heap.size, 2, none⟩ = some (.string t) ∧ V.cell? ⟨w.heap.size, 3, none⟩ = some (.string f) ∧ V.cell? ⟨w.heap.size, 4, none⟩ = some (.int .i64 wt) ∧ V.cell? ⟨w.heap.size, 5, none⟩ = some (.slice (some ⟨g, o, none⟩) 3 cap) ∧ V.cell? ⟨w.heap.size, 6, none⟩ = some (.int .i64 vl) ∧ V.cell? ⟨g, o, none⟩ = some (.int .i64 x) ∧ V.cell? ⟨g, o + 1, none⟩ = some (.int .i64 y) ∧ V.cell? ⟨g, o + 2, none⟩ = some (.int .i64 z) ∧ Tabs V ∧ Below w.heap.size w V) (((try go_split_ands); refine ⟨?_, ?_, ?_, ?_, ?_, ?_, ?_, ?_, ?_, ?_, ?_, ?_⟩ <;> first | assumption | (apply cell_keep <;> assumption) | (apply Tabs.keep <;> assumption) | (apply Below.drew; assumption) | (apply chain' <;> assumption))) (first | (go_at_call 31; refine (HCF.out _ (by (try go_split_ands); assumption)).mono ?_; rintro e w' ⟨rfl, hb⟩) | (go_at_call 30; with_reducible refine (toEq (fmtI wt _ ow (by (try go_split_ands); assumption))).mono ?_; rintro e w' ⟨rfl, hb⟩) | (go_at_call 30; with_reducible refine (toEq (fmtI x _ ox (by (try go_split_ands); assumption))).mono ?_; rintro e w' ⟨rfl, hb⟩) | (go_at_call 30; with_reducible refine (toEq (fmtI y _ oy (by (try go_split_ands); assumption))).mono ?_; rintro e w' ⟨rfl, hb⟩) | (go_at_call 30; with_reducible refine (toEq (fmtI z _ oz (by (try go_split_ands); assumption))).mono ?_; rintro e w' ⟨rfl, hb⟩) | (go_at_call 30; with_reducible refine (toEq (fmtI vl _ ov (by (try go_split_ands); assumption))).mono ?_; rintro e w' ⟨rfl, hb⟩))
    all_goals
      (try go_split_ands)
      try rw [← HTt.out]
      go_wp2_with fail
      go_region_held3 (fun V => V.cell? ⟨w.heap.size, 0, none⟩ = some (.int .i64 a) ∧ V.cell? ⟨w.heap.size, 1, none⟩ = some (.int .i64 b) ∧ V.cell? ⟨w.heap.size, 2, none⟩ = some (.string t) ∧ V.cell? ⟨w.heap.size, 3, none⟩ = some (.string f) ∧ V.cell? ⟨w.heap.size, 4, none⟩ = some (.int .i64 wt) ∧ V.cell? ⟨w.heap.size, 5, none⟩ = some (.slice (some ⟨g, o, none⟩) 3 cap) ∧ V.cell? ⟨w.heap.size, 6, none⟩ = some (.int .i64 vl) ∧ V.cell? ⟨g, o, none⟩ = some (.int .i64 x) ∧ V.cell? ⟨g, o + 1, none⟩ = some (.int .i64 y) ∧ V.cell? ⟨g, o + 2, none⟩ = some (.int .i64 z) ∧ Tabs V ∧ Below w.heap.size w V) (((try go_split_ands); refine ⟨?_, ?_, ?_, ?_, ?_, ?_, ?_, ?_, ?_, ?_, ?_, ?_⟩ <;> first | assumption | (apply cell_keep <;> assumption) | (apply Tabs.keep <;> assumption) | (apply Below.drew; assumption) | (apply chain' <;> assumption))) (first | (go_at_call 31; refine (HCF.out _ (by (try go_split_ands); assumption)).mono ?_; rintro e w' ⟨rfl, hb⟩) | (go_at_call 30; with_reducible refine (toEq (fmtI wt _ ow (by (try go_split_ands); assumption))).mono ?_; rintro e w' ⟨rfl, hb⟩) | (go_at_call 30; with_reducible refine (toEq (fmtI x _ ox (by (try go_split_ands); assumption))).mono ?_; rintro e w' ⟨rfl, hb⟩) | (go_at_call 30; with_reducible refine (toEq (fmtI y _ oy (by (try go_split_ands); assumption))).mono ?_; rintro e w' ⟨rfl, hb⟩) | (go_at_call 30; with_reducible refine (toEq (fmtI z _ oz (by (try go_split_ands); assumption))).mono ?_; rintro e w' ⟨rfl, hb⟩) | (go_at_call 30; with_reducible refine (toEq (fmtI vl _ ov (by (try go_split_ands); assumption))).mono ?_; rintro e w' ⟨rfl, hb⟩))
      all_goals
        (try go_split_ands)
        go_wp2_with fail
        go_ret
        refine SPost.of ?_ (by assumption)
        rw [HYES.out]
        rw [HTt.out]
        simp only [ByteArray.data_append, Array.toList_append, HL.out, str_data]
        simp [parL, sidesL, joinC]
set_option maxHeartbeats 12800000 in
theorem parS (a b : Int) (t f : ByteArray) (wt : Int) (xs : List Int) (vl : Int) (V : Value) (w : World) (ht' : t.size ≤ maxLen) (hf : f.size ≤ maxLen) (sl : SliceOf w 1 vI V xs) (ht : Tabs w) : Calls Tryz.prog 20 #[.agg #[.int .i64 a, .int .i64 b, .string t, .string f, .int .i64 wt, V, .int .i64 vl]] w (SPost (parOf ⟨⟨a, b, t⟩, f, wt, xs, vl⟩) w) := by
  obtain ⟨A0, c0_, rfl, -, -⟩ := sl.form
  cases hg : parB a b t f wt xs vl
  · have hno := parOf_no (d := ⟨⟨a, b, t⟩, f, wt, xs, vl⟩) hg
    have HNO := Lib.hid hno; clear hno
    go_enter Tryz.func20, Tryz.ntmps20
    go_wp2_with fail
    obtain ⟨W, hW⟩ : ∃ W, W = w.alloc (.cells #[.int .i64 a, .int .i64 b, .string t, .string f, .int .i64 wt, .slice A0 xs.length c0_, .int .i64 vl] 26) := ⟨_, rfl⟩
    try rw [← hW]
    have bW : Below w.heap.size w W := by rw [hW]; go_grown
    have sW := sl.keep bW (Nat.le_refl _)
    clear hW
    have CP := isParcelS a b t f wt xs vl _ W ht' hf sW
    rw [hg] at CP
    clear hg
    refine CP.mono ?_
    rintro e w0 ⟨rfl, b0⟩
    clear CP
    go_wp2_with fail
    go_ret
    exact SPost.of HNO.out.symm (chain bW b0)
  · obtain ⟨p1, p2, p3, p4, p5⟩ := parG_iff (d := ⟨⟨a, b, t⟩, f, wt, xs, vl⟩) hg
    simp only at p1 p2 p3 p4 p5
    have hyes := parOf_yes (d := ⟨⟨a, b, t⟩, f, wt, xs, vl⟩) hg
    have HYES := Lib.hid hyes; clear hyes
    obtain ⟨x, y, z, rfl, hx, hy, hz⟩ := three_list p4
    obtain ⟨g, o, cap, hV, hcap, hcap2, s0, s1, s2⟩ := three_cells sl
    rw [hV] at sl ⊢
    clear hV
    unfold maxLen at hcap2
    go_enter Tryz.func20, Tryz.ntmps20
    go_wp2_with fail
    obtain ⟨W, hW⟩ : ∃ W, W = w.alloc (.cells #[.int .i64 a, .int .i64 b, .string t, .string f, .int .i64 wt, .slice (some ⟨g, o, none⟩) 3 cap, .int .i64 vl] 26) := ⟨_, rfl⟩
    try rw [← hW]
    have c0 : W.cell? ⟨w.heap.size, 0, none⟩ = some (.int .i64 a) := by rw [hW]; simp [go_sem]
    have c1 : W.cell? ⟨w.heap.size, 1, none⟩ = some (.int .i64 b) := by rw [hW]; simp [go_sem]
    have c2 : W.cell? ⟨w.heap.size, 2, none⟩ = some (.string t) := by rw [hW]; simp [go_sem]
    have c3 : W.cell? ⟨w.heap.size, 3, none⟩ = some (.string f) := by rw [hW]; simp [go_sem]
    have c4 : W.cell? ⟨w.heap.size, 4, none⟩ = some (.int .i64 wt) := by rw [hW]; simp [go_sem]
    have c5 : W.cell? ⟨w.heap.size, 5, none⟩ = some (.slice (some ⟨g, o, none⟩) 3 cap) := by rw [hW]; simp [go_sem]
    have c6 : W.cell? ⟨w.heap.size, 6, none⟩ = some (.int .i64 vl) := by rw [hW]; simp [go_sem]
    have bW : Below w.heap.size w W := by rw [hW]; go_grown
    have sW := sl.keep bW (Nat.le_refl _)
    clear hW
    have CP := isParcelS a b t f wt [x, y, z] vl _ W ht' hf sW
    rw [hg] at CP
    clear hg
    refine CP.mono ?_
    rintro e w0 ⟨rfl, b0⟩
    clear CP sW sl
    have hT := (ht.keep bW).keep b0
    replace bW := chain bW b0
    replace s0 := cell_keep bW s0
    replace s1 := cell_keep bW s1
    replace s2 := cell_keep bW s2
    replace c0 := cell_keep b0 c0
    replace c1 := cell_keep b0 c1
    replace c2 := cell_keep b0 c2
    replace c3 := cell_keep b0 c3
    replace c4 := cell_keep b0 c4
    replace c5 := cell_keep b0 c5
    replace c6 := cell_keep b0 c6
    clear b0
    have CF := fun (Q : World) (hQ : Tabs Q) => toEq (flabS a b t Q ht' hQ)
    rw [flabOf_yes (d := ⟨a, b, t⟩) p1] at CF
    have zL : (str (flabL ⟨a, b, t⟩)).size ≤ 21 := by rw [str_size, flab_len (d := ⟨a, b, t⟩) p1]; omega
    obtain ⟨L, hL⟩ : ∃ L, L = str (flabL ⟨a, b, t⟩) := ⟨_, rfl⟩
    rw [← hL] at CF zL
    have HL := Lib.hid hL; clear hL
    have HCF := Lib.hid CF; clear CF
    have zf : f.size ≤ 21 := by rw [(plc_iff.1 p2).1]; omega
    clear p1 p2 p4
    have zw : (str (itoa wt)).size ≤ 21 := by rw [str_size]; exact Lib.itoa_length_le _ (by omega) (by omega)
    have zx : (str (itoa x)).size ≤ 21 := by rw [str_size]; exact Lib.itoa_length_le _ (by omega) (by omega)
    have zy : (str (itoa y)).size ≤ 21 := by rw [str_size]; exact Lib.itoa_length_le _ (by omega) (by omega)
    have zz : (str (itoa z)).size ≤ 21 := by rw [str_size]; exact Lib.itoa_length_le _ (by omega) (by omega)
    have zv : (str (itoa vl)).size ≤ 21 := by rw [str_size]; exact Lib.itoa_length_le _ (by omega) (by omega)
    have z120 : (⟨#[120]⟩ : ByteArray).size = 1 := rfl
    have z32 : (⟨#[32]⟩ : ByteArray).size = 1 := rfl
    have k0 := fun wx : World => run_string_add_sum (P := Tryz.prog) wx (L) (⟨#[32]⟩) (by (repeat rw [ByteArray.size_append]); omega)
    have k1 := fun wx : World => run_string_add_sum (P := Tryz.prog) wx (L ++ ⟨#[32]⟩) (f) (by (repeat rw [ByteArray.size_append]); omega)
    have k2 := fun wx : World => run_string_add_sum (P := Tryz.prog) wx (L ++ ⟨#[32]⟩ ++ f) (⟨#[32]⟩) (by (repeat rw [ByteArray.size_append]); omega)
    have k3 := fun wx : World => run_string_add_sum (P := Tryz.prog) wx (L ++ ⟨#[32]⟩ ++ f ++ ⟨#[32]⟩) (str (itoa wt)) (by (repeat rw [ByteArray.size_append]); omega)
    have k4 := fun wx : World => run_string_add_sum (P := Tryz.prog) wx (L ++ ⟨#[32]⟩ ++ f ++ ⟨#[32]⟩ ++ str (itoa wt)) (⟨#[32]⟩) (by (repeat rw [ByteArray.size_append]); omega)
    have k5 := fun wx : World => run_string_add_sum (P := Tryz.prog) wx (L ++ ⟨#[32]⟩ ++ f ++ ⟨#[32]⟩ ++ str (itoa wt) ++ ⟨#[32]⟩) (str (itoa x)) (by (repeat rw [ByteArray.size_append]); omega)
    have k6 := fun wx : World => run_string_add_sum (P := Tryz.prog) wx (L ++ ⟨#[32]⟩ ++ f ++ ⟨#[32]⟩ ++ str (itoa wt) ++ ⟨#[32]⟩ ++ str (itoa x)) (⟨#[120]⟩) (by (repeat rw [ByteArray.size_append]); omega)
    have k7 := fun wx : World => run_string_add_sum (P := Tryz.prog) wx (L ++ ⟨#[32]⟩ ++ f ++ ⟨#[32]⟩ ++ str (itoa wt) ++ ⟨#[32]⟩ ++ str (itoa x) ++ ⟨#[120]⟩) (str (itoa y)) (by (repeat rw [ByteArray.size_append]); omega)
    have k8 := fun wx : World => run_string_add_sum (P := Tryz.prog) wx (L ++ ⟨#[32]⟩ ++ f ++ ⟨#[32]⟩ ++ str (itoa wt) ++ ⟨#[32]⟩ ++ str (itoa x) ++ ⟨#[120]⟩ ++ str (itoa y)) (⟨#[120]⟩) (by (repeat rw [ByteArray.size_append]); omega)
    have k9 := fun wx : World => run_string_add_sum (P := Tryz.prog) wx (L ++ ⟨#[32]⟩ ++ f ++ ⟨#[32]⟩ ++ str (itoa wt) ++ ⟨#[32]⟩ ++ str (itoa x) ++ ⟨#[120]⟩ ++ str (itoa y) ++ ⟨#[120]⟩) (str (itoa z)) (by (repeat rw [ByteArray.size_append]); omega)
    have k10 := fun wx : World => run_string_add_sum (P := Tryz.prog) wx (L ++ ⟨#[32]⟩ ++ f ++ ⟨#[32]⟩ ++ str (itoa wt) ++ ⟨#[32]⟩ ++ str (itoa x) ++ ⟨#[120]⟩ ++ str (itoa y) ++ ⟨#[120]⟩ ++ str (itoa z)) (⟨#[32]⟩) (by (repeat rw [ByteArray.size_append]); omega)
    have k11 := fun wx : World => run_string_add_sum (P := Tryz.prog) wx (L ++ ⟨#[32]⟩ ++ f ++ ⟨#[32]⟩ ++ str (itoa wt) ++ ⟨#[32]⟩ ++ str (itoa x) ++ ⟨#[120]⟩ ++ str (itoa y) ++ ⟨#[120]⟩ ++ str (itoa z) ++ ⟨#[32]⟩) (str (itoa vl)) (by (repeat rw [ByteArray.size_append]); omega)
    clear z120 z32
    have ow : okI wt := by unfold okI; omega
    have ox : okI x := by unfold okI; omega
    have oy : okI y := by unfold okI; omega
    have oz : okI z := by unfold okI; omega
    have ov : okI vl := by unfold okI; omega
    go_wp2_with fail
    go_region_held3 (fun V => V.cell? ⟨w.heap.size, 0, none⟩ = some (.int .i64 a) ∧ V.cell? ⟨w.heap.size, 1, none⟩ = some (.int .i64 b) ∧ V.cell? ⟨w.heap.size, 2, none⟩ = some (.string t) ∧ V.cell? ⟨w.heap.size, 3, none⟩ = some (.string f) ∧ V.cell? ⟨w.heap.size, 4, none⟩ = some (.int .i64 wt) ∧ V.cell? ⟨w.heap.size, 5, none⟩ = some (.slice (some ⟨g, o, none⟩) 3 cap) ∧ V.cell? ⟨w.heap.size, 6, none⟩ = some (.int .i64 vl) ∧ V.cell? ⟨g, o, none⟩ = some (.int .i64 x) ∧ V.cell? ⟨g, o + 1, none⟩ = some (.int .i64 y) ∧ V.cell? ⟨g, o + 2, none⟩ = some (.int .i64 z) ∧ Tabs V ∧ Below w.heap.size w V) (((try go_split_ands); refine ⟨?_, ?_, ?_, ?_, ?_, ?_, ?_, ?_, ?_, ?_, ?_, ?_⟩ <;> first | assumption | (apply cell_keep <;> assumption) | (apply Tabs.keep <;> assumption) | (apply Below.drew; assumption) | (apply chain' <;> assumption))) (first | (go_at_call 43; refine (HCF.out _ (by (try go_split_ands); assumption)).mono ?_; rintro e w' ⟨rfl, hb⟩) | (go_at_call 44; with_reducible refine (toEq (fmtS wt _ ow)).mono ?_; rintro e w' ⟨rfl, hb⟩) | (go_at_call 44; with_reducible refine (toEq (fmtS x _ ox)).mono ?_; rintro e w' ⟨rfl, hb⟩) | (go_at_call 44; with_reducible refine (toEq (fmtS y _ oy)).mono ?_; rintro e w' ⟨rfl, hb⟩) | (go_at_call 44; with_reducible refine (toEq (fmtS z _ oz)).mono ?_; rintro e w' ⟨rfl, hb⟩) | (go_at_call 44; with_reducible refine (toEq (fmtS vl _ ov)).mono ?_; rintro e w' ⟨rfl, hb⟩))
    all_goals
      (try go_split_ands)
      go_wp2_with fail
      go_ret
      refine SPost.of ?_ (by assumption)
      rw [HYES.out]
      simp only [ByteArray.data_append, Array.toList_append, HL.out, str_data]
      simp [parL, sidesL, joinC]
theorem fparI (a b : Int) (t f : ByteArray) (wt : Int) (xs : List Int) (vl : Int) (V : Value) (w : World) (ht' : t.size ≤ maxLen) (hf : f.size ≤ maxLen) (sl : SliceOf w 1 vI V xs) (ht : Tabs w) : Calls Tryz.prog 12 #[.agg #[.int .i64 a, .int .i64 b, .string t, .string f, .int .i64 wt, V, .int .i64 vl]] w fun e w' => e = .returned (.string (str (parOf ⟨⟨a, b, t⟩, f, wt, xs, vl⟩))) ∧ Below w.heap.size w w' := toEq (parI a b t f wt xs vl V w ht' hf sl ht)
theorem fparS (a b : Int) (t f : ByteArray) (wt : Int) (xs : List Int) (vl : Int) (V : Value) (w : World) (ht' : t.size ≤ maxLen) (hf : f.size ≤ maxLen) (sl : SliceOf w 1 vI V xs) (ht : Tabs w) : Calls Tryz.prog 20 #[.agg #[.int .i64 a, .int .i64 b, .string t, .string f, .int .i64 wt, V, .int .i64 vl]] w fun e w' => e = .returned (.string (str (parOf ⟨⟨a, b, t⟩, f, wt, xs, vl⟩))) ∧ Below w.heap.size w w' := toEq (parS a b t f wt xs vl V w ht' hf sl ht)
end Go.Proofs.YteicnjemaemijaaGreatDoor
