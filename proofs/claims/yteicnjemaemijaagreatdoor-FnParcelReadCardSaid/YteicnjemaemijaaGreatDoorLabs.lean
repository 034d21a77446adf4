/- What the labels' texts are: body, check number, whole text: the program's and the reference's alike. No condition. -/
import Derived.Test.YteicnjemaemijaaGreatDoorDigits
import Derived.Deep.RegionHeld3
namespace Go.Proofs.YteicnjemaemijaaGreatDoor
open Go.RowKit Go.PlainAid
open Go.Lib (itoa decDigits decDigits_two)
set_option maxRecDepth 100000
set_option linter.unusedVariables false
/-- The check number and the text of whatever label. -/
def chkOf (d : LabelD) : Int := if labOk d then chk d else -1
def flabOf (d : LabelD) : List UInt8 := if labOk d then flabL d else []
theorem chkOf_yes {d : LabelD} (h : labOk d = true) : chkOf d = chk d := if_pos h
theorem chkOf_no {d : LabelD} (h : labOk d = false) : chkOf d = -1 := if_neg (by rw [h]; simp)
theorem flabOf_yes {d : LabelD} (h : labOk d = true) : flabOf d = flabL d := if_pos h
theorem flabOf_no {d : LabelD} (h : labOk d = false) : flabOf d = [] := if_neg (by rw [h]; simp)
set_option maxHeartbeats 3200000 in
theorem bodyI (a b : Int) (s : ByteArray) (w : World) (hl : labB a b s = true) (ht : Tabs w) : Calls Tryz.prog 54 #[.agg #[.int .i64 a, .int .i64 b, .string s]] w (SPost (bodyL ⟨a, b, s⟩) w) := by
  obtain ⟨h1, h2, h3⟩ := labOk_iff (d := ⟨a, b, s⟩) hl
  simp only at h1 h2 h3
  have oa : okI a := by unfold okI; omega
  have ob : okI b := by unfold okI; omega
  have z1 : (str (itoa a)).size ≤ 21 := by rw [str_size]; exact Lib.itoa_length_le a oa.1 oa.2
  have z2 : (str (padL b 9)).size ≤ 21 := by rw [str_size, pad_len h2.1 (k := 8) (by omega)]; omega
  have z3 : s.size ≤ 21 := by rw [(plc_iff.1 h3).1]; omega
  have k1 := fun wx : World => run_string_add_sum (P := Tryz.prog) wx (str (itoa a)) (str (padL b 9)) (by omega)
  have k2 := fun wx : World => run_string_add_sum (P := Tryz.prog) wx (str (itoa a) ++ str (padL b 9)) s (by rw [ByteArray.size_append]; omega)
  go_enter Tryz.func54, Tryz.ntmps54
  go_wp2_with fail
  obtain ⟨W, hW⟩ : ∃ W, W = w.alloc (.cells #[.int .i64 a, .int .i64 b, .string s] 23) := ⟨_, rfl⟩
  try rw [← hW]
  have c0 : W.cell? ⟨w.heap.size, 0, none⟩ = some (.int .i64 a) := by rw [hW]; simp [go_sem]
  have c1 : W.cell? ⟨w.heap.size, 1, none⟩ = some (.int .i64 b) := by rw [hW]; simp [go_sem]
  have c2 : W.cell? ⟨w.heap.size, 2, none⟩ = some (.string s) := by rw [hW]; simp [go_sem]
  have bW : Below w.heap.size w W := by rw [hW]; go_grown
  have hT := ht.keep bW
  clear hW
  go_region_held3 (fun V => V.cell? ⟨w.heap.size, 0, none⟩ = some (.int .i64 a) ∧ V.cell? ⟨w.heap.size, 1, none⟩ = some (.int .i64 b) ∧ V.cell? ⟨w.heap.size, 2, none⟩ = some (.string s) ∧ Tabs V ∧ Below w.heap.size w V) (((try go_split_ands); refine ⟨?_, ?_, ?_, ?_, ?_⟩ <;> first | assumption | (apply cell_keep <;> assumption) | (apply Tabs.keep <;> assumption) | (apply Below.drew; assumption) | (apply chain' <;> assumption))) (first | (go_at_call 30; refine (toEq (fmtI _ _ oa (by (try go_split_ands); assumption))).mono ?_; rintro e w' ⟨rfl, hb⟩) | (go_at_call 55; refine (toEq (padI b 9 _ ob (by omega) (by (try go_split_ands); assumption))).mono ?_; rintro e w' ⟨rfl, hb⟩))
  all_goals
    (try go_split_ands)
    go_wp2_with fail
    go_ret
    exact SPost.of (by rw [ByteArray.data_append, Array.toList_append, ByteArray.data_append, Array.toList_append]; rfl) (by assumption)
set_option maxHeartbeats 3200000 in
theorem checkI (a b : Int) (s : ByteArray) (w : World) (hs : s.size ≤ maxLen) (ht : Tabs w) : Calls Tryz.prog 56 #[.agg #[.int .i64 a, .int .i64 b, .string s]] w fun e w' => e = .returned (.int .i64 (chkOf ⟨a, b, s⟩)) ∧ Below w.heap.size w w' := by
  go_enter Tryz.func56, Tryz.ntmps56
  go_wp2_with fail
  obtain ⟨W, hW⟩ : ∃ W, W = w.alloc (.cells #[.int .i64 a, .int .i64 b, .string s] 23) := ⟨_, rfl⟩
  try rw [← hW]
  have c0 : W.cell? ⟨w.heap.size, 0, none⟩ = some (.int .i64 a) := by rw [hW]; simp [go_sem]
  have c1 : W.cell? ⟨w.heap.size, 1, none⟩ = some (.int .i64 b) := by rw [hW]; simp [go_sem]
  have c2 : W.cell? ⟨w.heap.size, 2, none⟩ = some (.string s) := by rw [hW]; simp [go_sem]
  have bW : Below w.heap.size w W := by rw [hW]; go_grown
  have hT := ht.keep bW
  clear hW
  refine (isLabelI a b s _ hs).mono ?_
  rintro e w0 ⟨rfl, b0⟩
  replace hT := hT.keep b0
  replace c0 := cell_keep b0 c0
  replace c1 := cell_keep b0 c1
  replace c2 := cell_keep b0 c2
  replace bW := chain bW b0
  cases hl : labB a b s
  · go_wp2_with fail
    go_ret
    exact ⟨ret_int (chkOf_no (d := ⟨a, b, s⟩) hl).symm, bW⟩
  · go_wp2_with fail
    refine (bodyI a b s _ hl hT).mono ?_
    rintro e w1 ⟨r, rfl, Hr, hr, b1⟩
    have hz : r.size ≤ 13 := by rw [hr, body_len (d := ⟨a, b, s⟩) hl]; omega
    have HR := Lib.hid hr; clear hr
    have hT1 := hT.keep b1
    have b2 := chain bW b1
    go_wp2_with fail
    refine (digitsI r _ (by omega) hT1).mono ?_
    rintro e w2 ⟨q, rfl, Hq, b3⟩
    have Hq' : Hid (q.data.toList = digF (bodyL ⟨a, b, s⟩)) := by
      have h := Hq.out
      rw [Hr.out, body_ok (d := ⟨a, b, s⟩) hl] at h
      exact h
    have hq : q.size ≤ 39 := by
      have h := digF_len (bodyL ⟨a, b, s⟩)
      rw [body_len (d := ⟨a, b, s⟩) hl, ← Hq'.out, data_len] at h
      exact h
    clear Hq
    have b4 := chain b2 b3
    go_wp2_with fail
    refine (mod97I _ _ (by unfold maxLen; rw [ByteArray.size_append]; show q.size + 2 ≤ _; omega)).mono ?_
    rintro e w3 ⟨rfl, rfl⟩
    have hm : Hid (mod97 (q ++ ⟨#[48, 48]⟩).data.toList = m97 (digF (bodyL ⟨a, b, s⟩) ++ [48, 48])) := Lib.hid (by
      rw [ByteArray.data_append, Array.toList_append, Hq'.out]
      unfold mod97
      rw [digs_append, digF_isdigs]
      have e : ((digF (bodyL ⟨a, b, s⟩) ++ (⟨#[48, 48]⟩ : ByteArray).data.toList).isEmpty) = false := by simp
      rw [e]; rfl)
    have hbd := m97_bd (digF (bodyL ⟨a, b, s⟩) ++ [48, 48])
    generalize hmm : mod97 (q ++ ⟨#[48, 48]⟩).data.toList = m at hm ⊢
    have hm0 : 0 ≤ m ∧ m ≤ 96 := by rw [hm.out]; exact hbd
    obtain ⟨hm1, hm2⟩ := hm0
    have HL := Lib.hid hl; clear hl
    clear hbd hmm
    go_wp2_with fail
    go_ret
    exact ⟨ret_int (by rw [chkOf_yes (d := ⟨a, b, s⟩) HL.out, hm.out]; rfl), b4⟩
set_option maxHeartbeats 3200000 in
theorem flabI (a b : Int) (s : ByteArray) (w : World) (hs : s.size ≤ maxLen) (ht : Tabs w) : Calls Tryz.prog 31 #[.agg #[.int .i64 a, .int .i64 b, .string s]] w (SPost (flabOf ⟨a, b, s⟩) w) := by
  have hcb := chk_bd ⟨a, b, s⟩
  have z2 : (str (padL (chk ⟨a, b, s⟩) 2)).size ≤ 21 := by rw [str_size, pad_len (by omega) (k := 1) (by omega)]; omega
  have oc : okI (chk ⟨a, b, s⟩) := by unfold okI; omega
  go_enter Tryz.func31, Tryz.ntmps31
  go_wp2_with fail
  obtain ⟨W, hW⟩ : ∃ W, W = w.alloc (.cells #[.int .i64 a, .int .i64 b, .string s] 23) := ⟨_, rfl⟩
  try rw [← hW]
  have c0 : W.cell? ⟨w.heap.size, 0, none⟩ = some (.int .i64 a) := by rw [hW]; simp [go_sem]
  have c1 : W.cell? ⟨w.heap.size, 1, none⟩ = some (.int .i64 b) := by rw [hW]; simp [go_sem]
  have c2 : W.cell? ⟨w.heap.size, 2, none⟩ = some (.string s) := by rw [hW]; simp [go_sem]
  have bW : Below w.heap.size w W := by rw [hW]; go_grown
  have hT := ht.keep bW
  clear hW
  refine (isLabelI a b s _ hs).mono ?_
  rintro e w0 ⟨rfl, b0⟩
  replace hT := hT.keep b0
  replace c0 := cell_keep b0 c0
  replace c1 := cell_keep b0 c1
  replace c2 := cell_keep b0 c2
  replace bW := chain bW b0
  cases hl : labB a b s
  · go_wp2_with fail
    go_ret
    exact SPost.of (flabOf_no (d := ⟨a, b, s⟩) hl).symm bW
  · have z1 : (str (bodyL ⟨a, b, s⟩)).size ≤ 21 := by rw [str_size, body_len (d := ⟨a, b, s⟩) hl]; omega
    have k1 := fun wx : World => run_string_add_sum (P := Tryz.prog) wx (str (bodyL ⟨a, b, s⟩)) (str (padL (chk ⟨a, b, s⟩) 2)) (by omega)
    have hck := fun (V : World) (hV : Tabs V) => checkI a b s V hs hV
    rw [chkOf_yes (d := ⟨a, b, s⟩) hl] at hck
    have hfy := flabOf_yes (d := ⟨a, b, s⟩) hl
    have HFY := Lib.hid hfy; clear hfy
    have HCK := Lib.hid hck; clear hck
    have HL := Lib.hid hl; clear hl
    clear hcb
    generalize hcc0 : chk ⟨a, b, s⟩ = c at *
    have hcc := Lib.hid hcc0; clear hcc0
    go_wp2_with fail
    go_region_held3 (fun V => V.cell? ⟨w.heap.size, 0, none⟩ = some (.int .i64 a) ∧ V.cell? ⟨w.heap.size, 1, none⟩ = some (.int .i64 b) ∧ V.cell? ⟨w.heap.size, 2, none⟩ = some (.string s) ∧ Tabs V ∧ Below w.heap.size w V) (((try go_split_ands); refine ⟨?_, ?_, ?_, ?_, ?_⟩ <;> first | assumption | (apply cell_keep <;> assumption) | (apply Tabs.keep <;> assumption) | (apply Below.drew; assumption) | (apply chain' <;> assumption))) (first | (go_at_call 54; refine (toEq (bodyI a b s _ HL.out (by (try go_split_ands); assumption))).mono ?_; rintro e w' ⟨rfl, hb⟩) | (go_at_call 56; refine (HCK.out _ (by (try go_split_ands); assumption)).mono ?_; rintro e w' ⟨rfl, hb⟩) | (go_at_call 55; refine (toEq (padI c 2 _ oc (by omega) (by (try go_split_ands); assumption))).mono ?_; rintro e w' ⟨rfl, hb⟩))
    all_goals
      (try go_split_ands)
      go_wp2_with fail
      go_ret
      exact SPost.of (by rw [ByteArray.data_append, Array.toList_append, HFY.out]; unfold flabL; rw [hcc.out]; rfl) (by assumption)
set_option maxHeartbeats 3200000 in
theorem bodyS (a b : Int) (s : ByteArray) (w : World) (hl : labB a b s = true) (ht : Tabs w) : Calls Tryz.prog 59 #[.agg #[.int .i64 a, .int .i64 b, .string s]] w (SPost (bodyL ⟨a, b, s⟩) w) := by
  obtain ⟨h1, h2, h3⟩ := labOk_iff (d := ⟨a, b, s⟩) hl
  simp only at h1 h2 h3
  have oa : okI a := by unfold okI; omega
  have ob : okI b := by unfold okI; omega
  have z1 : (str (itoa a)).size ≤ 21 := by rw [str_size]; exact Lib.itoa_length_le a oa.1 oa.2
  have z2 : (str (padL b 9)).size ≤ 21 := by rw [str_size, pad_len h2.1 (k := 8) (by omega)]; omega
  have z3 : s.size ≤ 21 := by rw [(plc_iff.1 h3).1]; omega
  have k1 := fun wx : World => run_string_add_sum (P := Tryz.prog) wx (str (itoa a)) (str (padL b 9)) (by omega)
  have k2 := fun wx : World => run_string_add_sum (P := Tryz.prog) wx (str (itoa a) ++ str (padL b 9)) s (by rw [ByteArray.size_append]; omega)
  go_enter Tryz.func59, Tryz.ntmps59
  go_wp2_with fail
  obtain ⟨W, hW⟩ : ∃ W, W = w.alloc (.cells #[.int .i64 a, .int .i64 b, .string s] 23) := ⟨_, rfl⟩
  try rw [← hW]
  have c0 : W.cell? ⟨w.heap.size, 0, none⟩ = some (.int .i64 a) := by rw [hW]; simp [go_sem]
  have c1 : W.cell? ⟨w.heap.size, 1, none⟩ = some (.int .i64 b) := by rw [hW]; simp [go_sem]
  have c2 : W.cell? ⟨w.heap.size, 2, none⟩ = some (.string s) := by rw [hW]; simp [go_sem]
  have bW : Below w.heap.size w W := by rw [hW]; go_grown
  have hT := ht.keep bW
  clear hW
  go_region_held3 (fun V => V.cell? ⟨w.heap.size, 0, none⟩ = some (.int .i64 a) ∧ V.cell? ⟨w.heap.size, 1, none⟩ = some (.int .i64 b) ∧ V.cell? ⟨w.heap.size, 2, none⟩ = some (.string s) ∧ Tabs V ∧ Below w.heap.size w V) (((try go_split_ands); refine ⟨?_, ?_, ?_, ?_, ?_⟩ <;> first | assumption | (apply cell_keep <;> assumption) | (apply Tabs.keep <;> assumption) | (apply Below.drew; assumption) | (apply chain' <;> assumption))) (first | (go_at_call 44; refine (toEq (fmtS _ _ oa)).mono ?_; rintro e w' ⟨rfl, hb⟩) | (go_at_call 60; refine (toEq (padS b 9 _ ob (by omega))).mono ?_; rintro e w' ⟨rfl, hb⟩))
  all_goals
    (try go_split_ands)
    go_wp2_with fail
    go_ret
    exact SPost.of (by rw [ByteArray.data_append, Array.toList_append, ByteArray.data_append, Array.toList_append]; rfl) (by assumption)
set_option maxHeartbeats 3200000 in
theorem checkS (a b : Int) (s : ByteArray) (w : World) (hs : s.size ≤ maxLen) (ht : Tabs w) : Calls Tryz.prog 61 #[.agg #[.int .i64 a, .int .i64 b, .string s]] w fun e w' => e = .returned (.int .i64 (chkOf ⟨a, b, s⟩)) ∧ Below w.heap.size w w' := by
  go_enter Tryz.func61, Tryz.ntmps61
  go_wp2_with fail
  obtain ⟨W, hW⟩ : ∃ W, W = w.alloc (.cells #[.int .i64 a, .int .i64 b, .string s] 23) := ⟨_, rfl⟩
  try rw [← hW]
  have c0 : W.cell? ⟨w.heap.size, 0, none⟩ = some (.int .i64 a) := by rw [hW]; simp [go_sem]
  have c1 : W.cell? ⟨w.heap.size, 1, none⟩ = some (.int .i64 b) := by rw [hW]; simp [go_sem]
  have c2 : W.cell? ⟨w.heap.size, 2, none⟩ = some (.string s) := by rw [hW]; simp [go_sem]
  have bW : Below w.heap.size w W := by rw [hW]; go_grown
  have hT := ht.keep bW
  clear hW
  refine (isLabelS a b s _ hs).mono ?_
  rintro e w0 ⟨rfl, b0⟩
  replace hT := hT.keep b0
  replace c0 := cell_keep b0 c0
  replace c1 := cell_keep b0 c1
  replace c2 := cell_keep b0 c2
  replace bW := chain bW b0
  cases hl : labB a b s
  · go_wp2_with fail
    go_ret
    exact ⟨ret_int (chkOf_no (d := ⟨a, b, s⟩) hl).symm, bW⟩
  · go_wp2_with fail
    refine (bodyS a b s _ hl hT).mono ?_
    rintro e w1 ⟨r, rfl, Hr, hr, b1⟩
    have hz : r.size ≤ 13 := by rw [hr, body_len (d := ⟨a, b, s⟩) hl]; omega
    have HR := Lib.hid hr; clear hr
    have hT1 := hT.keep b1
    have b2 := chain bW b1
    go_wp2_with fail
    refine (digitsS _ _ (by rw [ByteArray.size_append]; show r.size + 2 ≤ _; omega)).mono ?_
    rintro e w2 ⟨q, rfl, Hq, b3⟩
    have Hq' : Hid (q.data.toList = digF (bodyL ⟨a, b, s⟩) ++ [48, 48]) := by
      have h := Hq.out
      rw [ByteArray.data_append, Array.toList_append, Hr.out, digOk_append, body_ok (d := ⟨a, b, s⟩) hl, digF_append] at h
      exact h
    have hq : q.size ≤ 41 := by
      have h := digF_len (bodyL ⟨a, b, s⟩)
      have h2 := congrArg List.length Hq'.out
      rw [data_len, List.length_append] at h2
      rw [body_len (d := ⟨a, b, s⟩) hl] at h
      simp only [List.length_cons, List.length_nil] at h2
      omega
    clear Hq
    have b4 := chain b2 b3
    go_wp2_with fail
    refine (mod97S _ _ (by unfold maxLen; omega)).mono ?_
    rintro e w3 ⟨rfl, rfl⟩
    have hm : Hid (mod97 q.data.toList = m97 (digF (bodyL ⟨a, b, s⟩) ++ [48, 48])) := Lib.hid (by
      rw [Hq'.out]
      unfold mod97
      rw [digs_append, digF_isdigs]
      have e : ((digF (bodyL ⟨a, b, s⟩) ++ [48, 48]).isEmpty) = false := by simp
      rw [e]; rfl)
    have hbd := m97_bd (digF (bodyL ⟨a, b, s⟩) ++ [48, 48])
    generalize hmm : mod97 q.data.toList = m at hm ⊢
    have hm0 : 0 ≤ m ∧ m ≤ 96 := by rw [hm.out]; exact hbd
    obtain ⟨hm1, hm2⟩ := hm0
    have HL := Lib.hid hl; clear hl
    clear hbd hmm
    go_wp2_with fail
    go_ret
    exact ⟨ret_int (by rw [chkOf_yes (d := ⟨a, b, s⟩) HL.out, hm.out]; rfl), b4⟩
set_option maxHeartbeats 3200000 in
theorem flabS (a b : Int) (s : ByteArray) (w : World) (hs : s.size ≤ maxLen) (ht : Tabs w) : Calls Tryz.prog 43 #[.agg #[.int .i64 a, .int .i64 b, .string s]] w (SPost (flabOf ⟨a, b, s⟩) w) := by
  have hcb := chk_bd ⟨a, b, s⟩
  have z2 : (str (padL (chk ⟨a, b, s⟩) 2)).size ≤ 21 := by rw [str_size, pad_len (by omega) (k := 1) (by omega)]; omega
  have oc : okI (chk ⟨a, b, s⟩) := by unfold okI; omega
  go_enter Tryz.func43, Tryz.ntmps43
  go_wp2_with fail
  obtain ⟨W, hW⟩ : ∃ W, W = w.alloc (.cells #[.int .i64 a, .int .i64 b, .string s] 23) := ⟨_, rfl⟩
  try rw [← hW]
  have c0 : W.cell? ⟨w.heap.size, 0, none⟩ = some (.int .i64 a) := by rw [hW]; simp [go_sem]
  have c1 : W.cell? ⟨w.heap.size, 1, none⟩ = some (.int .i64 b) := by rw [hW]; simp [go_sem]
  have c2 : W.cell? ⟨w.heap.size, 2, none⟩ = some (.string s) := by rw [hW]; simp [go_sem]
  have bW : Below w.heap.size w W := by rw [hW]; go_grown
  have hT := ht.keep bW
  clear hW
  refine (isLabelS a b s _ hs).mono ?_
  rintro e w0 ⟨rfl, b0⟩
  replace hT := hT.keep b0
  replace c0 := cell_keep b0 c0
  replace c1 := cell_keep b0 c1
  replace c2 := cell_keep b0 c2
  replace bW := chain bW b0
  cases hl : labB a b s
  · go_wp2_with fail
    go_ret
    exact SPost.of (flabOf_no (d := ⟨a, b, s⟩) hl).symm bW
  · have z1 : (str (bodyL ⟨a, b, s⟩)).size ≤ 21 := by rw [str_size, body_len (d := ⟨a, b, s⟩) hl]; omega
    have k1 := fun wx : World => run_string_add_sum (P := Tryz.prog) wx (str (bodyL ⟨a, b, s⟩)) (str (padL (chk ⟨a, b, s⟩) 2)) (by omega)
    have hck := fun (V : World) (hV : Tabs V) => checkS a b s V hs hV
    rw [chkOf_yes (d := ⟨a, b, s⟩) hl] at hck
    have hfy := flabOf_yes (d := ⟨a, b, s⟩) hl
    have HFY := Lib.hid hfy; clear hfy
    have HCK := Lib.hid hck; clear hck
    have HL := Lib.hid hl; clear hl
    clear hcb
    generalize hcc0 : chk ⟨a, b, s⟩ = c at *
    have hcc := Lib.hid hcc0; clear hcc0
    go_wp2_with fail
    go_region_held3 (fun V => V.cell? ⟨w.heap.size, 0, none⟩ = some (.int .i64 a) ∧ V.cell? ⟨w.heap.size, 1, none⟩ = some (.int .i64 b) ∧ V.cell? ⟨w.heap.size, 2, none⟩ = some (.string s) ∧ Tabs V ∧ Below w.heap.size w V) (((try go_split_ands); refine ⟨?_, ?_, ?_, ?_, ?_⟩ <;> first | assumption | (apply cell_keep <;> assumption) | (apply Tabs.keep <;> assumption) | (apply Below.drew; assumption) | (apply chain' <;> assumption))) (first | (go_at_call 59; refine (toEq (bodyS a b s _ HL.out (by (try go_split_ands); assumption))).mono ?_; rintro e w' ⟨rfl, hb⟩) | (go_at_call 61; refine (HCK.out _ (by (try go_split_ands); assumption)).mono ?_; rintro e w' ⟨rfl, hb⟩) | (go_at_call 60; refine (toEq (padS c 2 _ oc (by omega))).mono ?_; rintro e w' ⟨rfl, hb⟩))
    all_goals
      (try go_split_ands)
      go_wp2_with fail
      go_ret
      exact SPost.of (by rw [ByteArray.data_append, Array.toList_append, HFY.out]; unfold flabL; rw [hcc.out]; rfl) (by assumption)
end Go.Proofs.YteicnjemaemijaaGreatDoor
