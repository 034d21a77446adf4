/- The law FnLabelOrder walked: it returns true. No condition. -/
import Derived.Test.YtogdmidldaeheaaDrawLab
import Derived.Test.YtogdmidldaeheaaOrderLaw
namespace Go.Proofs.Ytogdmidldaeheaa
open Go.RowKit Go.PlainAid
set_option maxRecDepth 100000
set_option linter.unusedVariables false
theorem ba_ext {s t : ByteArray} (h : s.data.toList = t.data.toList) : s = t := by
  obtain ⟨⟨x⟩⟩ := s; obtain ⟨⟨y⟩⟩ := t
  simp at h; rw [h]
theorem cmpLab_zero {a1 a2 b1 b2 : Int} {s t : ByteArray} (h : cmpLab ⟨a1, a2, s⟩ ⟨b1, b2, t⟩ = 0) : a1 = b1 ∧ a2 = b2 ∧ s = t := by
  rw [cmpLab_def] at h
  rcases cmpI_cases a1 b1 with ⟨p, e⟩ | ⟨p, e⟩ | ⟨p, e⟩ <;> rcases cmpI_cases a2 b2 with ⟨q, f⟩ | ⟨q, f⟩ | ⟨q, f⟩ <;> simp [e, f] at h
  exact ⟨p, q, ba_ext ((cmpB_zero _ _).1 h)⟩
theorem cmpLab_refl (a1 a2 : Int) (s : ByteArray) : cmpLab ⟨a1, a2, s⟩ ⟨a1, a2, s⟩ = 0 := by
  rw [cmpLab_def]; simp [cmpI_eq]; exact (cmpB_zero _ _).2 rfl
theorem cmpB_bd : ∀ a b : List UInt8, -1 ≤ Lib.compareBytes a b ∧ Lib.compareBytes a b ≤ 1
  | [], [] => by simp [Lib.compareBytes]
  | [], _ :: _ => by simp [Lib.compareBytes]
  | _ :: _, [] => by simp [Lib.compareBytes]
  | a :: xs, b :: ys => by
    unfold Lib.compareBytes
    have := cmpB_bd xs ys
    split
    · omega
    · split <;> omega
theorem cmpLab_bd (a b : LabelD) : -1 ≤ cmpLab a b ∧ cmpLab a b ≤ 1 := by
  rw [cmpLab_def]
  have := cmpB_bd a.dest.data.toList b.dest.data.toList
  have h : -1 ≤ cmpS a.dest b.dest ∧ cmpS a.dest b.dest ≤ 1 := this
  rcases cmpI_cases a.service b.service with ⟨p, e⟩ | ⟨p, e⟩ | ⟨p, e⟩ <;> rcases cmpI_cases a.serial b.serial with ⟨q, f⟩ | ⟨q, f⟩ | ⟨q, f⟩ <;> simp [e, f] <;> omega
set_option maxHeartbeats 8000000 in
theorem walk_LabelOrder (v0 : Value) (w : World) (h0 : VBytes w v0) : Calls Try.prog 14 #[v0] w fun e w' => e = .returned (.bool true) ∧ Below w.heap.size w w' := by
  obtain ⟨xs, hxs, h⟩ := h0
  obtain ⟨A, c, rfl, hle, hm⟩ := h.form
  have hbig := fun W (hW : SliceOf W 1 vB (.slice A xs.length c) xs) => big_any xs _ W hW
  have HB := Lib.hid hbig; clear hbig
  cases hb : decide (4096 < (xs.length : Int))
  · go_enter Try.func14, Try.ntmps14
    go_wp2_with fail
    refine (HB.out _ h).mono ?_
    rintro e w0 ⟨rfl, rfl⟩
    go_wp2_with fail
    refine (drawCompare_any xs _ _ h).mono ?_
    rintro e w1 ⟨a, b, s, a', b', s', rfl, oa, ob, os, oa', ob', os', b1⟩
    go_wp2_with fail
    obtain ⟨V, hV⟩ : ∃ V, V = (w1.alloc (.cells #[.int .i64 a, .int .i64 b, .string s] 31)).alloc (.cells #[.int .i64 a', .int .i64 b', .string s'] 31) := ⟨_, rfl⟩
    rw [← hV]
    have X : Box V w1.heap.size 31 #[.int .i64 a, .int .i64 b, .string s] := by rw [hV]; exact (Box.new _ _ _).alloc _
    have Y : Box V (w1.heap.size + 1) 31 #[.int .i64 a', .int .i64 b', .string s'] := by
      have h := Box.new (w1.alloc (.cells #[.int .i64 a, .int .i64 b, .string s] 31)) 31 #[.int .i64 a', .int .i64 b', .string s']
      rw [show (w1.alloc (.cells #[.int .i64 a, .int .i64 b, .string s] 31)).heap.size = w1.heap.size + 1 from by simp] at h
      rw [hV]; exact h
    have bV : Below w1.heap.size w1 V := by rw [hV]; go_grown
    clear hV
    have B1 := chain b1 bV
    refine (drawLabel_any xs _ _ (h.keep B1 (Nat.le_refl _))).mono ?_
    rintro e w2 ⟨a2, b2, s2, rfl, oa2, ob2, os2, b2'⟩
    have B2 := chain B1 b2'
    replace X := X.keep b2'
    replace Y := Y.keep b2'
    have n2 : w1.heap.size + 1 < w2.heap.size := Y.lt
    have n3 : w1.heap.size < w2.heap.size := X.lt
    have xc0 : w2.cell? ⟨w1.heap.size, 0, none⟩ = some (.int .i64 a) := X.cell 0
    have xc1 : w2.cell? ⟨w1.heap.size, 1, none⟩ = some (.int .i64 b) := X.cell 1
    have xc2 : w2.cell? ⟨w1.heap.size, 2, none⟩ = some (.string s) := X.cell 2
    have yc0 : w2.cell? ⟨w1.heap.size + 1, 0, none⟩ = some (.int .i64 a') := Y.cell 0
    have yc1 : w2.cell? ⟨w1.heap.size + 1, 1, none⟩ = some (.int .i64 b') := Y.cell 1
    have yc2 : w2.cell? ⟨w1.heap.size + 1, 2, none⟩ = some (.string s') := Y.cell 2
    have q12 := cmpLab_bd ⟨a, b, s⟩ ⟨a', b', s'⟩
    have q21 := cmpLab_anti ⟨a, b, s⟩ ⟨a', b', s'⟩
    have tr := cmpLab_trans ⟨a, b, s⟩ ⟨a', b', s'⟩ ⟨a2, b2, s2⟩
    have z12 := @cmpLab_zero a b a' b' s s'
    have c12 := fun W => cmpLabI a b a' b' s s' W
    have c21 := fun W => cmpLabI a' b' a b s' s W
    have c23 := fun W => cmpLabI a' b' a2 b2 s' s2 W
    have c13 := fun W => cmpLabI a b a2 b2 s s2 W
    rw [q21] at c21
    obtain ⟨y, hy⟩ : ∃ y, y = cmpLab ⟨a', b', s'⟩ ⟨a2, b2, s2⟩ := ⟨_, rfl⟩
    obtain ⟨z, hz⟩ : ∃ z, z = cmpLab ⟨a, b, s⟩ ⟨a2, b2, s2⟩ := ⟨_, rfl⟩
    have r12 := cmpLab_refl a b s
    generalize hx : cmpLab ⟨a, b, s⟩ ⟨a', b', s'⟩ = x at q12 c12 c21 tr z12
    rw [← hy] at c23 tr
    rw [← hz] at c13 tr
    obtain ⟨x0, x1⟩ := q12
    have HX := Lib.hid hx; clear hx
    have H12 := Lib.hid c12; clear c12
    have H21 := Lib.hid c21; clear c21
    have H23 := Lib.hid c23; clear c23
    have H13 := Lib.hid c13; clear c13
    have HT := Lib.hid tr; clear tr
    have HZ := Lib.hid z12; clear z12
    clear hy hz q21
    have HR := Lib.hid r12; clear r12
    go_wp2_with fail
    obtain ⟨U, hU⟩ : ∃ U, U = w2.alloc (.cells #[.int .i64 a2, .int .i64 b2, .string s2] 31) := ⟨_, rfl⟩
    rw [← hU]
    replace X : Box U w1.heap.size 31 #[.int .i64 a, .int .i64 b, .string s] := by rw [hU]; exact X.alloc _
    replace Y : Box U (w1.heap.size + 1) 31 #[.int .i64 a', .int .i64 b', .string s'] := by rw [hU]; exact Y.alloc _
    have Z : Box U w2.heap.size 31 #[.int .i64 a2, .int .i64 b2, .string s2] := by rw [hU]; exact Box.new _ _ _
    have bU : Below w2.heap.size w2 U := by rw [hU]; go_grown
    clear hU
    have B3 := chain B2 bU
    clear xc0 xc1 xc2 yc0 yc1 yc2
    refine (H12.out _).mono ?_
    rintro e w3 ⟨rfl, b3⟩
    replace X := X.keep b3
    replace Y := Y.keep b3
    replace Z := Z.keep b3
    have B4 := chain B3 b3
    have xc0 : w3.cell? ⟨w1.heap.size, 0, none⟩ = some (.int .i64 a) := X.cell 0
    have xc1 : w3.cell? ⟨w1.heap.size, 1, none⟩ = some (.int .i64 b) := X.cell 1
    have xc2 : w3.cell? ⟨w1.heap.size, 2, none⟩ = some (.string s) := X.cell 2
    have yc0 : w3.cell? ⟨w1.heap.size + 1, 0, none⟩ = some (.int .i64 a') := Y.cell 0
    have yc1 : w3.cell? ⟨w1.heap.size + 1, 1, none⟩ = some (.int .i64 b') := Y.cell 1
    have yc2 : w3.cell? ⟨w1.heap.size + 1, 2, none⟩ = some (.string s') := Y.cell 2
    have zc0 : w3.cell? ⟨w2.heap.size, 0, none⟩ = some (.int .i64 a2) := Z.cell 0
    have zc1 : w3.cell? ⟨w2.heap.size, 1, none⟩ = some (.int .i64 b2) := Z.cell 1
    have zc2 : w3.cell? ⟨w2.heap.size, 2, none⟩ = some (.string s2) := Z.cell 2
    by_cases ex : x = 0
    · obtain ⟨e1, e2, e3⟩ := HZ.out ex
      have d1 : (a == a') = true := by simpa using e1
      have d2 : (b == b') = true := by simpa using e2
      have d3 : (s.toList == s'.toList) = true := by rw [e3]; simp
      have ex' : (x == 0) = true := by simpa using ex
      have x2 : x ≤ 0 := by omega
      have x3 : 0 ≤ x := by omega
      clear e1 e2 e3 ex
      go_wp2_with fail
      refine (H21.out _).mono ?_
      rintro e w4 ⟨rfl, b4⟩
      replace X := X.keep b4
      replace Y := Y.keep b4
      replace Z := Z.keep b4
      have B5 := chain B4 b4
      clear xc0 xc1 xc2 yc0 yc1 yc2 zc0 zc1 zc2
      have xc0 : w4.cell? ⟨w1.heap.size, 0, none⟩ = some (.int .i64 a) := X.cell 0
      have xc1 : w4.cell? ⟨w1.heap.size, 1, none⟩ = some (.int .i64 b) := X.cell 1
      have xc2 : w4.cell? ⟨w1.heap.size, 2, none⟩ = some (.string s) := X.cell 2
      have yc0 : w4.cell? ⟨w1.heap.size + 1, 0, none⟩ = some (.int .i64 a') := Y.cell 0
      have yc1 : w4.cell? ⟨w1.heap.size + 1, 1, none⟩ = some (.int .i64 b') := Y.cell 1
      have yc2 : w4.cell? ⟨w1.heap.size + 1, 2, none⟩ = some (.string s') := Y.cell 2
      have zc0 : w4.cell? ⟨w2.heap.size, 0, none⟩ = some (.int .i64 a2) := Z.cell 0
      have zc1 : w4.cell? ⟨w2.heap.size, 1, none⟩ = some (.int .i64 b2) := Z.cell 1
      have zc2 : w4.cell? ⟨w2.heap.size, 2, none⟩ = some (.string s2) := Z.cell 2
      by_cases g2 : 0 < y
      · go_wp2_with fail
        refine (H23.out _).mono ?_
        rintro e w5 ⟨rfl, b5⟩
        go_wp2_with fail
        go_ret
        exact ⟨rfl, chain B5 b5⟩
      · have g3 : z ≤ 0 := HT.out (by omega) (by omega)
        go_wp2_with fail
        refine (H23.out _).mono ?_
        rintro e w5 ⟨rfl, b5⟩
        replace X := X.keep b5
        replace Z := Z.keep b5
        have B6 := chain B5 b5
        clear xc0 xc1 xc2 yc0 yc1 yc2 zc0 zc1 zc2
        have xc0 : w5.cell? ⟨w1.heap.size, 0, none⟩ = some (.int .i64 a) := X.cell 0
        have xc1 : w5.cell? ⟨w1.heap.size, 1, none⟩ = some (.int .i64 b) := X.cell 1
        have xc2 : w5.cell? ⟨w1.heap.size, 2, none⟩ = some (.string s) := X.cell 2
        have yc0 : w5.cell? ⟨w1.heap.size + 1, 0, none⟩ = some (.int .i64 a') := (Y.keep b5).cell 0
        have yc1 : w5.cell? ⟨w1.heap.size + 1, 1, none⟩ = some (.int .i64 b') := (Y.keep b5).cell 1
        have yc2 : w5.cell? ⟨w1.heap.size + 1, 2, none⟩ = some (.string s') := (Y.keep b5).cell 2
        have zc0 : w5.cell? ⟨w2.heap.size, 0, none⟩ = some (.int .i64 a2) := Z.cell 0
        have zc1 : w5.cell? ⟨w2.heap.size, 1, none⟩ = some (.int .i64 b2) := Z.cell 1
        have zc2 : w5.cell? ⟨w2.heap.size, 2, none⟩ = some (.string s2) := Z.cell 2
        go_wp2_with fail
        refine (H13.out _).mono ?_
        rintro e w6 ⟨rfl, b6⟩
        go_wp2_with fail
        go_ret
        exact ⟨rfl, chain B6 b6⟩
    · have ne : ¬ (a = a' ∧ b = b' ∧ s = s') := by
        rintro ⟨rfl, rfl, rfl⟩
        exact ex (HX.out.symm.trans HR.out)
      have ex' : (x == 0) = false := by simpa using ex
      have ex'' : (x != 0) = true := by simpa using ex
      have dif : (a == a') = false ∨ ((a == a') = true ∧ (b == b') = false) ∨ ((a == a') = true ∧ (b == b') = true ∧ (s.toList == s'.toList) = false) := by
        by_cases e1 : a = a'
        · by_cases e2 : b = b'
          · refine .inr (.inr ⟨by simpa using e1, by simpa using e2, ?_⟩)
            rw [beq_eq_false_iff_ne]; intro e3; exact ne ⟨e1, e2, ba_ext (by rwa [Lib.toList_data, Lib.toList_data] at e3)⟩
          · exact .inr (.inl ⟨by simpa using e1, by simpa using e2⟩)
        · exact .inl (by simpa using e1)
      clear ne
      rcases dif with d1 | ⟨d1, d2⟩ | ⟨d1, d2, d3⟩
      all_goals
        by_cases g1 : 0 < x
        · go_wp2_with fail
          refine (H21.out _).mono ?_
          rintro e w4 ⟨rfl, b4⟩
          clear xc0 xc1 xc2 yc0 yc1 yc2 zc0 zc1 zc2
          have xc0 : w4.cell? ⟨w1.heap.size, 0, none⟩ = some (.int .i64 a) := (X.keep b4).cell 0
          have xc1 : w4.cell? ⟨w1.heap.size, 1, none⟩ = some (.int .i64 b) := (X.keep b4).cell 1
          have xc2 : w4.cell? ⟨w1.heap.size, 2, none⟩ = some (.string s) := (X.keep b4).cell 2
          have yc0 : w4.cell? ⟨w1.heap.size + 1, 0, none⟩ = some (.int .i64 a') := (Y.keep b4).cell 0
          have yc1 : w4.cell? ⟨w1.heap.size + 1, 1, none⟩ = some (.int .i64 b') := (Y.keep b4).cell 1
          have yc2 : w4.cell? ⟨w1.heap.size + 1, 2, none⟩ = some (.string s') := (Y.keep b4).cell 2
          go_wp2_with fail
          go_ret
          exact ⟨rfl, chain B4 b4⟩
        have g1' : x ≤ 0 := by omega
        have g1'' : x < 0 := by omega
        go_wp2_with fail
        refine (H21.out _).mono ?_
        rintro e w4 ⟨rfl, b4⟩
        replace X := X.keep b4
        replace Y := Y.keep b4
        replace Z := Z.keep b4
        have B5 := chain B4 b4
        clear xc0 xc1 xc2 yc0 yc1 yc2 zc0 zc1 zc2
        have xc0 : w4.cell? ⟨w1.heap.size, 0, none⟩ = some (.int .i64 a) := X.cell 0
        have xc1 : w4.cell? ⟨w1.heap.size, 1, none⟩ = some (.int .i64 b) := X.cell 1
        have xc2 : w4.cell? ⟨w1.heap.size, 2, none⟩ = some (.string s) := X.cell 2
        have yc0 : w4.cell? ⟨w1.heap.size + 1, 0, none⟩ = some (.int .i64 a') := Y.cell 0
        have yc1 : w4.cell? ⟨w1.heap.size + 1, 1, none⟩ = some (.int .i64 b') := Y.cell 1
        have yc2 : w4.cell? ⟨w1.heap.size + 1, 2, none⟩ = some (.string s') := Y.cell 2
        have zc0 : w4.cell? ⟨w2.heap.size, 0, none⟩ = some (.int .i64 a2) := Z.cell 0
        have zc1 : w4.cell? ⟨w2.heap.size, 1, none⟩ = some (.int .i64 b2) := Z.cell 1
        have zc2 : w4.cell? ⟨w2.heap.size, 2, none⟩ = some (.string s2) := Z.cell 2
        by_cases g2 : 0 < y
        · go_wp2_with fail
          refine (H23.out _).mono ?_
          rintro e w5 ⟨rfl, b5⟩
          go_wp2_with fail
          go_ret
          exact ⟨rfl, chain B5 b5⟩
        · have g3 : z ≤ 0 := HT.out (by omega) (by omega)
          go_wp2_with fail
          refine (H23.out _).mono ?_
          rintro e w5 ⟨rfl, b5⟩
          replace X := X.keep b5
          replace Z := Z.keep b5
          have B6 := chain B5 b5
          clear xc0 xc1 xc2 yc0 yc1 yc2 zc0 zc1 zc2
          have xc0 : w5.cell? ⟨w1.heap.size, 0, none⟩ = some (.int .i64 a) := X.cell 0
          have xc1 : w5.cell? ⟨w1.heap.size, 1, none⟩ = some (.int .i64 b) := X.cell 1
          have xc2 : w5.cell? ⟨w1.heap.size, 2, none⟩ = some (.string s) := X.cell 2
          have yc0 : w5.cell? ⟨w1.heap.size + 1, 0, none⟩ = some (.int .i64 a') := (Y.keep b5).cell 0
          have yc1 : w5.cell? ⟨w1.heap.size + 1, 1, none⟩ = some (.int .i64 b') := (Y.keep b5).cell 1
          have yc2 : w5.cell? ⟨w1.heap.size + 1, 2, none⟩ = some (.string s') := (Y.keep b5).cell 2
          have zc0 : w5.cell? ⟨w2.heap.size, 0, none⟩ = some (.int .i64 a2) := Z.cell 0
          have zc1 : w5.cell? ⟨w2.heap.size, 1, none⟩ = some (.int .i64 b2) := Z.cell 1
          have zc2 : w5.cell? ⟨w2.heap.size, 2, none⟩ = some (.string s2) := Z.cell 2
          go_wp2_with fail
          refine (H13.out _).mono ?_
          rintro e w6 ⟨rfl, b6⟩
          go_wp2_with fail
          go_ret
          exact ⟨rfl, chain B6 b6⟩
  · go_enter Try.func14, Try.ntmps14
    go_wp2_with fail
    refine (HB.out _ h).mono ?_
    rintro e w0 ⟨rfl, rfl⟩
    go_wp2_with fail
    go_ret
    exact ⟨rfl, Below.refl _ _⟩
end Go.Proofs.Ytogdmidldaeheaa
