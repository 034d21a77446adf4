/- What ParseLabel answers: the program's and the reference's alike. No condition. -/
import Derived.Test.YteicnjemaemijaaGreatDoorLabs
import Derived.Test.YteicnjemaemijaaGreatDoorParse
import Derived.Test.YteicnjemaemijaaGreatDoorBoxes
import Derived.RegionTactic
namespace Go.Proofs.YteicnjemaemijaaGreatDoor
open Go.RowKit Go.PlainAid
open Go.Lib (itoa decDigits decDigits_two)
set_option maxRecDepth 100000
set_option linter.unusedVariables false
def zeroLab : LabelD := ⟨0, 0, ⟨#[]⟩⟩
/-- What a text says as a label: the label, and whether there is one. -/
def IsLab (l : List UInt8) (d : LabelD) (ok : Bool) : Prop := (ok = true ∧ labOk d = true ∧ flabL d = l) ∨ (ok = false ∧ d = zeroLab ∧ ∀ d' : LabelD, labOk d' = true → flabL d' ≠ l)
theorem IsLab.unique {l : List UInt8} {d e : LabelD} {a b : Bool} (h : IsLab l d a) (k : IsLab l e b) : d = e ∧ a = b := by
  rcases h with ⟨rfl, h1, h2⟩ | ⟨rfl, rfl, h3⟩ <;> rcases k with ⟨rfl, k1, k2⟩ | ⟨rfl, rfl, k3⟩
  · exact ⟨flab_inj h1 k1 (h2.trans k2.symm), rfl⟩
  · exact absurd h2 (k3 _ h1)
  · exact absurd k2 (h3 _ k1)
  · exact ⟨rfl, rfl⟩
theorem IsLab.bd {l : List UInt8} {d : LabelD} {ok : Bool} (h : IsLab l d ok) : okI d.service ∧ okI d.serial ∧ d.dest.size ≤ 3 := by
  rcases h with ⟨_, h1, _⟩ | ⟨_, rfl, _⟩
  · obtain ⟨p, q, r⟩ := labOk_iff h1
    exact ⟨by unfold okI; omega, by unfold okI; omega, by rw [(plc_iff.1 r).1]; omega⟩
  · exact ⟨by unfold okI zeroLab; simp, by unfold okI zeroLab; simp, by unfold zeroLab; decide⟩
theorem lab_none {l : List UInt8} (h : ∀ d : LabelD, labOk d = true → flabL d ≠ l) : IsLab l zeroLab false := .inr ⟨rfl, rfl, h⟩
theorem lab_len {l : List UInt8} (h : l.length ≠ 15) : IsLab l zeroLab false := lab_none fun d hd e => h (by rw [← e]; exact flab_len hd)
/-- A label read, or none. -/
def LPost (l : List UInt8) (w : World) (e : Ending) (w' : World) : Prop :=
  ∃ (d : LabelD) (ok : Bool), e = .returned (.tuple #[.agg #[.int .i64 d.service, .int .i64 d.serial, .string d.dest], .bool ok]) ∧ Hid (IsLab l d ok) ∧ Below w.heap.size w w'
/-- The parts of a label's text. -/
theorem lab_parts {d : LabelD} (h : labOk d = true) : (flabL d).take 1 = itoa d.service ∧ ((flabL d).drop 1).take 9 = padL d.serial 9 ∧ ((flabL d).drop 10).take 3 = d.dest.data.toList := by
  obtain ⟨h1, h2, h3⟩ := labOk_iff h
  obtain ⟨x, y, z, e, _⟩ := plc_list h3
  have l1 : (itoa d.service).length = 1 := by rw [service_text h1.1 h1.2]; rfl
  have l2 : (padL d.serial 9).length = 9 := pad_len h2.1 (k := 8) (by omega)
  have l3 : d.dest.data.toList.length = 3 := by rw [e]; rfl
  have e1 : flabL d = itoa d.service ++ (padL d.serial 9 ++ (d.dest.data.toList ++ padL (chk d) 2)) := by unfold flabL bodyL; simp
  rw [e1]
  refine ⟨?_, ?_, ?_⟩
  · exact List.take_left' l1
  · rw [List.drop_left' l1]; exact List.take_left' l2
  · rw [← List.append_assoc, List.drop_left' (by rw [List.length_append, l1, l2])]; exact List.take_left' l3
theorem ext_take (s : ByteArray) (a b : Nat) : (s.extract a b).data.toList = (s.data.toList.drop a).take (b - a) := Lib.extract_data ..
theorem lab_try {s : ByteArray} {a b : Int} {d : LabelD} (hd : labOk d = true) (e : flabL d = s.data.toList) (h1 : Lib.atoiAll (s.extract 0 1).data.toList = .ok a) (h2 : Lib.atoiAll (s.extract 1 10).data.toList = .ok b) :
    d = ⟨a, b, s.extract 10 13⟩ := by
  obtain ⟨p1, p2, p3⟩ := lab_parts hd
  obtain ⟨q1, q2, q3⟩ := labOk_iff hd
  rw [e] at p1 p2 p3
  rw [ext_take] at h1 h2
  simp only [List.drop_zero, Nat.sub_zero] at h1
  rw [p1, atoi_itoa (by omega) (by omega)] at h1
  rw [p2, atoi_pad q2.1 (by omega)] at h2
  injection h1 with h1
  injection h2 with h2
  have h3 : (s.extract 10 13).data.toList = d.dest.data.toList := by rw [ext_take]; exact p3
  obtain ⟨a', b', c'⟩ := d
  simp only at h1 h2 h3
  rw [h1, h2, data_inj h3]
theorem lab_no1 {s : ByteArray} (h : ∀ v : Int, Lib.atoiAll (s.extract 0 1).data.toList ≠ .ok v) : IsLab s.data.toList zeroLab false := lab_none fun d hd e => by
  obtain ⟨p1, p2, p3⟩ := lab_parts hd
  obtain ⟨q1, q2, q3⟩ := labOk_iff hd
  rw [e] at p1
  refine h d.service ?_
  rw [ext_take]; simp only [List.drop_zero, Nat.sub_zero]
  rw [p1, atoi_itoa (by omega) (by omega)]
theorem lab_no2 {s : ByteArray} (h : ∀ v : Int, Lib.atoiAll (s.extract 1 10).data.toList ≠ .ok v) : IsLab s.data.toList zeroLab false := lab_none fun d hd e => by
  obtain ⟨p1, p2, p3⟩ := lab_parts hd
  obtain ⟨q1, q2, q3⟩ := labOk_iff hd
  rw [e] at p2
  refine h d.serial ?_
  rw [ext_take, p2, atoi_pad q2.1 (by omega)]
theorem lab_no3 {s : ByteArray} {a b : Int} (h1 : Lib.atoiAll (s.extract 0 1).data.toList = .ok a) (h2 : Lib.atoiAll (s.extract 1 10).data.toList = .ok b) (h : flabOf ⟨a, b, s.extract 10 13⟩ ≠ s.data.toList) : IsLab s.data.toList zeroLab false :=
  lab_none fun d hd e => by
    have := lab_try hd e h1 h2
    subst this
    rw [flabOf_yes hd] at h
    exact h e
theorem lab_yes {s : ByteArray} {d : LabelD} (hs : s.size = 15) (h : flabOf d = s.data.toList) : IsLab s.data.toList d true := by
  cases hl : labOk d
  · rw [flabOf_no hl] at h
    have := data_len s
    rw [← h, hs] at this; simp at this
  · rw [flabOf_yes hl] at h
    exact .inl ⟨rfl, hl, h⟩
theorem data_size {s : ByteArray} {l : List UInt8} (h : s.data.toList = l) : s.size = l.length := by rw [← h]; simp
set_option maxHeartbeats 3200000 in
theorem parseLabI (s : ByteArray) (w : World) (hs : s.size ≤ 281474976710656) (h : Errs w) : Calls Tryz.prog 22 #[.string s] w (LPost s.data.toList w) := by
  by_cases h15 : s.size = 15
  · have H15 := Lib.hid h15
    have g0 : 15 ≤ s.size := by omega
    have g1 : ((s.size : Int) != 15) = false := by rw [h15]; rfl
    have g2 : (10 : Int) ≤ (s.size : Int) := by omega
    have g3 : (13 : Int) ≤ (s.size : Int) := by omega
    have g4 : (1 : Int) ≤ (s.size : Int) := by omega
    clear h15
    go_enter Tryz.func22, Tryz.ntmps22
    go_wp2_with fail
    obtain ⟨W, hW⟩ : ∃ W, W = w.alloc (.cells #[.int .i64 0, .int .i64 0, .string ⟨#[]⟩] 23) := ⟨_, rfl⟩
    try rw [← hW]
    have P : Box W w.heap.size 23 #[.int .i64 0, .int .i64 0, .string ⟨#[]⟩] := by rw [hW]; exact Box.new _ _ _
    have bW : Below w.heap.size w W := by rw [hW]; go_grown
    clear hW
    have HW := h.keep bW
    refine (atoi_any (s.extract 0 1) _ (by have := extz s 0 1; omega) HW).mono ?_
    rintro e w1 hA
    have hA1 := hA
    have b1 : Below W.heap.size W w1 := by rcases hA1 with ⟨v, _, _, _, b⟩ | ⟨_, n, tp, p, _, _, b⟩ <;> exact b
    have B1 := chain bW b1
    have H1 := HW.keep b1
    replace P := P.keep b1
    clear hA1 b1
    have fin : ∀ (w2 : World), Below w1.heap.size w1 w2 → True := fun _ _ => trivial
    rcases hA with ⟨v, ha, ⟨v0, v1⟩, rfl, -⟩ | ⟨ha, v, tp, p, ⟨v0, v1⟩, rfl, -⟩
    all_goals
      have HA := Lib.hid ha; clear ha
      go_wp2_with fail
      refine (atoi_any (s.extract 1 10) _ (by have := extz s 1 10; omega) H1).mono ?_
      rintro e w2 hA
      have hA1 := hA
      have b2 : Below w1.heap.size w1 w2 := by rcases hA1 with ⟨v, _, _, _, b⟩ | ⟨_, n, tp, p, _, _, b⟩ <;> exact b
      have B2 := chain B1 b2
      have H2 := H1.keep b2
      replace P := P.keep b2
      clear hA1 b2
      have n2 := P.lt
      have p0 : w2.cell? ⟨w.heap.size, 0, none⟩ = some (.int .i64 0) := P.cell 0
      have p1 : w2.cell? ⟨w.heap.size, 1, none⟩ = some (.int .i64 0) := P.cell 1
      have p2 : w2.cell? ⟨w.heap.size, 2, none⟩ = some (.string ⟨#[]⟩) := P.cell 2
      have pf : ∀ j, w2.frozen? ⟨w.heap.size, j, none⟩ = false := fun j => P.frozen j
      rcases hA with ⟨u, hb, ⟨u0, u1⟩, rfl, -⟩ | ⟨hb, u, tp', p', ⟨u0, u1⟩, rfl, -⟩
      all_goals have HB := Lib.hid hb; clear hb
    · go_wp2_with fail
      obtain ⟨V, hV⟩ : ∃ V, V = w2.alloc (.cells #[.int .i64 v, .int .i64 u, .string (s.extract 10 13)] 23) := ⟨_, rfl⟩
      rw [← hV]
      have L : Box V w2.heap.size 23 #[.int .i64 v, .int .i64 u, .string (s.extract 10 13)] := by rw [hV]; exact Box.new _ _ _
      replace P : Box V w.heap.size 23 #[.int .i64 0, .int .i64 0, .string ⟨#[]⟩] := by rw [hV]; exact P.alloc _
      have bV : Below w2.heap.size w2 V := by rw [hV]; go_grown
      clear hV p0 p1 p2 pf
      have B3 := chain B2 bV
      have hz : (s.extract 10 13).size ≤ maxLen := by have := extz s 10 13; unfold maxLen; omega
      refine (flabI v u (s.extract 10 13) _ hz (H2.keep bV).1).mono ?_
      rintro e w3 ⟨r, rfl, HR, hr, b3⟩
      have HRS := Lib.hid hr; clear hr
      replace P := P.keep b3
      replace L := L.keep b3
      have B4 := chain B3 b3
      have p0 : w3.cell? ⟨w.heap.size, 0, none⟩ = some (.int .i64 0) := P.cell 0
      have p1 : w3.cell? ⟨w.heap.size, 1, none⟩ = some (.int .i64 0) := P.cell 1
      have p2 : w3.cell? ⟨w.heap.size, 2, none⟩ = some (.string ⟨#[]⟩) := P.cell 2
      have pf : ∀ j, w3.frozen? ⟨w.heap.size, j, none⟩ = false := fun j => P.frozen j
      have l0 : w3.cell? ⟨w2.heap.size, 0, none⟩ = some (.int .i64 v) := L.cell 0
      have l1 : w3.cell? ⟨w2.heap.size, 1, none⟩ = some (.int .i64 u) := L.cell 1
      have l2 : w3.cell? ⟨w2.heap.size, 2, none⟩ = some (.string (s.extract 10 13)) := L.cell 2
      cases hq : (r.toList == s.toList)
      · go_wp2_with fail
        refine bodyPost_ret (v := .tuple #[.agg #[.int .i64 0, .int .i64 0, .string ⟨#[]⟩], .bool false]) (by simp [results, Tryz.results22, go_sem, p0, p1, p2]) rfl ⟨zeroLab, false, rfl, lab_no3 HA.out HB.out (diff_list HR.out hq), ?_⟩
        repeat' (first | with_reducible exact B4 | with_reducible refine Below.setCell ?_ ?_ _ | (simp only; omega))
      · go_wp2_with fail
        refine bodyPost_ret (v := .tuple #[.agg #[.int .i64 v, .int .i64 u, .string (s.extract 10 13)], .bool true]) (by simp [results, Tryz.results22, go_sem, p0, p1, p2]) rfl ⟨⟨v, u, s.extract 10 13⟩, true, rfl, lab_yes H15.out (same_list HR.out hq), ?_⟩
        repeat' (first | with_reducible exact B4 | with_reducible refine Below.setCell ?_ ?_ _ | (simp only; omega))
    all_goals
      go_wp2_with fail
      refine bodyPost_ret (v := .tuple #[.agg #[.int .i64 0, .int .i64 0, .string ⟨#[]⟩], .bool false]) (by simp [results, Tryz.results22, go_sem, p0, p1, p2, n2]) rfl ⟨zeroLab, false, rfl, by first | exact lab_no1 HA.out | exact lab_no2 HB.out, ?_⟩
      repeat' (first | with_reducible exact B2 | with_reducible refine Below.alloc ?_ ?_ _ | with_reducible refine Below.setCell ?_ ?_ _ | (simp only; omega) | (simp [World.setCell]; omega))
  · have HL := Lib.hid (lab_len (l := s.data.toList) (by rw [data_len]; exact h15))
    have g1 : ((s.size : Int) != 15) = true := by simp; omega
    go_enter Tryz.func22, Tryz.ntmps22
    go_wp2_with fail
    refine bodyPost_ret (v := .tuple #[.agg #[.int .i64 0, .int .i64 0, .string ⟨#[]⟩], .bool false]) (by simp [results, Tryz.results22, go_sem]) rfl ⟨zeroLab, false, rfl, HL.out, by go_grown⟩
/-- Digits as the reference reads a serial number: whatever the bytes. -/
def serL (l : List UInt8) : Int := l.foldl (fun n c => 10 * n + (c.toNat : Int) - 48) 0
theorem serL_snoc (l : List UInt8) (c : UInt8) : serL (l ++ [c]) = 10 * serL l + (c.toNat : Int) - 48 := by unfold serL; rw [List.foldl_append]; rfl
theorem serL_bd_rev : ∀ r : List UInt8, -(23 * (10 ^ r.length - 1)) ≤ serL r.reverse ∧ serL r.reverse ≤ 23 * (10 ^ r.length - 1)
  | [] => by simp [serL]
  | c :: r => by
    have ih := serL_bd_rev r
    have hc : (c.toNat : Int) ≤ 255 := by have := c.toNat_lt; omega
    rw [List.reverse_cons, serL_snoc, List.length_cons, Int.pow_succ]
    generalize (10 : Int) ^ r.length = p at *
    omega
theorem serL_bd (l : List UInt8) (h : l.length ≤ 9) : -23000000000 ≤ serL l ∧ serL l ≤ 23000000000 := by
  have := serL_bd_rev l.reverse
  rw [List.reverse_reverse, List.length_reverse] at this
  have h2 : (10 : Int) ^ l.length ≤ 10 ^ 9 := by
    have : (10 : Nat) ^ l.length ≤ 10 ^ 9 := Nat.pow_le_pow_right (by omega) h
    have e1 : (10 : Int) ^ l.length = ((10 ^ l.length : Nat) : Int) := by simp
    rw [e1]; omega
  omega
theorem serL_digs_rev : ∀ r : List UInt8, digs r.reverse = true → serL r.reverse = (val r.reverse : Nat)
  | [], _ => rfl
  | c :: r, h => by
    rw [List.reverse_cons] at h ⊢
    rw [digs_snoc, Bool.and_eq_true] at h
    have := serL_digs_rev r h.1
    have hc := (digC_iff c).1 h.2
    rw [serL_snoc, val_snoc, this]
    omega
theorem serL_digs {l : List UInt8} (h : digs l = true) : serL l = (val l : Nat) := by
  have := serL_digs_rev l.reverse (by rw [List.reverse_reverse]; exact h)
  rwa [List.reverse_reverse] at this
/-- The candidate is the label, where the text is a label's. -/
theorem cand_lab {s : ByteArray} {c : UInt8} {d : LabelD} (hd : labOk d = true) (e : flabL d = s.data.toList) (hc : s.data.toList.take 1 = [c]) : d = ⟨(c.toNat : Int) - 48, serL ((s.data.toList.drop 1).take 9), s.extract 10 13⟩ := by
  obtain ⟨p1, p2, p3⟩ := lab_parts hd
  obtain ⟨q1, q2, q3⟩ := labOk_iff hd
  rw [e] at p1 p2 p3
  rw [hc, service_text q1.1 q1.2] at p1
  have h1 : c = UInt8.ofNat (48 + d.service.toNat) := by simpa using p1
  have h2 : serL ((s.data.toList.drop 1).take 9) = d.serial := by
    rw [p2, serL_digs (pad_digs q2.1 9), pad_val q2.1]; omega
  have h3 : (s.extract 10 13).data.toList = d.dest.data.toList := by rw [ext_take]; exact p3
  obtain ⟨a', b', c'⟩ := d
  simp only at h1 h2 h3 q1
  rw [h2, data_inj h3, h1, ofNat48 (by omega)]
  congr 1
  omega
theorem cand_no {s : ByteArray} {c : UInt8} (hc : s.data.toList.take 1 = [c]) (h : flabOf ⟨(c.toNat : Int) - 48, serL ((s.data.toList.drop 1).take 9), s.extract 10 13⟩ ≠ s.data.toList) : IsLab s.data.toList zeroLab false :=
  lab_none fun d hd e => by
    have := cand_lab hd e hc
    subst this
    rw [flabOf_yes hd] at h
    exact h e
theorem take_drop_snoc (s : ByteArray) (k : Nat) (h : k < s.size) (h1 : 1 ≤ k) : (s.data.toList.drop 1).take (k + 1 - 1) = (s.data.toList.drop 1).take (k - 1) ++ [s[k]] := by
  obtain ⟨j, rfl⟩ : ∃ j, k = j + 1 := ⟨k - 1, by omega⟩
  have hl : j < (s.data.toList.drop 1).length := by rw [List.length_drop, data_len]; omega
  have e : (s.data.toList.drop 1)[j]'hl = s[j + 1] := by rw [List.getElem_drop]; simp only [Nat.add_comm 1 j]; rfl
  rw [Nat.add_sub_cancel, Nat.add_sub_cancel, List.take_succ_eq_append_getElem hl, e]
set_option maxHeartbeats 3200000 in
theorem parseLabS (s : ByteArray) (w : World) (hs : s.size ≤ 281474976710656) (ht : Tabs w) : Calls Tryz.prog 18 #[.string s] w (LPost s.data.toList w) := by
  by_cases h15 : s.size = 15
  · have H15 := Lib.hid h15
    have g0 : 15 ≤ s.size := by omega
    have g1 : ((s.size : Int) != 15) = false := by rw [h15]; rfl
    have g2 : (10 : Int) ≤ (s.size : Int) := by omega
    have g3 : (13 : Int) ≤ (s.size : Int) := by omega
    have g4 : 0 < s.size := by omega
    have g5 : (0 : Int) < (s.size : Int) := by omega
    clear h15
    obtain ⟨c, hc⟩ : ∃ c : UInt8, c = s[0] := ⟨_, rfl⟩
    have hcb : (c.toNat : Int) ≤ 255 := by have := c.toNat_lt; omega
    have hget : ∀ h : 0 < s.size, s[0]'h = c := fun _ => hc.symm
    have hc1 : s.data.toList.take 1 = [c] := by have := take_snoc s 0 g4; rw [this, hc]; rfl
    have HC := Lib.hid hc1; clear hc1 hc
    go_enter Tryz.func18, Tryz.ntmps18
    go_wp2_with fail
    go_region
    go_wp2_with fail
    go_loopw [5] (fun i wr => ∃ k : Nat, 1 ≤ k ∧ k ≤ 10 ∧ i = .int .i64 k ∧ Box wr w.heap.size 23 #[.int .i64 0, .int .i64 0, .string ⟨#[]⟩] ∧ Box wr (w.heap.size + 1) 23 #[.int .i64 ((c.toNat : Int) - 48), .int .i64 (serL ((s.data.toList.drop 1).take (k - 1))), .string (s.extract 10 13)] ∧ Below w.heap.size w wr) (fun i _ => 10 - (intOf i).toNat)
    case atStart =>
      refine ⟨1, by omega, by omega, rfl, ?_, ?_, ?_⟩
      · first | exact (Box.new _ _ _).alloc _ | exact Box.drew ((Box.new _ _ _).alloc _)
      · have h := Box.new (w.alloc (.cells #[.int .i64 0, .int .i64 0, .string ⟨#[]⟩] 23)) 23 #[.int .i64 ((c.toNat : Int) - 48), .int .i64 0, .string (s.extract 10 13)]
        rw [show (w.alloc (.cells #[.int .i64 0, .int .i64 0, .string ⟨#[]⟩] 23)).heap.size = w.heap.size + 1 from by simp] at h
        first | exact h | exact Box.drew h
      · go_grown
    case round =>
      obtain ⟨k, k1, k2, rfl, P, L, hb⟩ := hrel
      have n2 := P.lt
      have l0 : wr.cell? ⟨w.heap.size + 1, 0, none⟩ = some (.int .i64 ((c.toNat : Int) - 48)) := L.cell 0
      have l1 : wr.cell? ⟨w.heap.size + 1, 1, none⟩ = some (.int .i64 (serL ((s.data.toList.drop 1).take (k - 1)))) := L.cell 1
      have l2 : wr.cell? ⟨w.heap.size + 1, 2, none⟩ = some (.string (s.extract 10 13)) := L.cell 2
      have lf : ∀ j, wr.frozen? ⟨w.heap.size + 1, j, none⟩ = false := fun j => L.frozen j
      have bd := serL_bd ((s.data.toList.drop 1).take (k - 1)) (by rw [List.length_take]; omega)
      by_cases hlt : k < 10
      · have hks : k < s.size := by omega
        obtain ⟨x, hx⟩ : ∃ x : UInt8, x = s[k] := ⟨_, rfl⟩
        have hxb : (x.toNat : Int) ≤ 255 := by have := x.toNat_lt; omega
        have hgetx : ∀ h : k < s.size, s[k]'h = x := fun _ => hx.symm
        have hsn := take_drop_snoc s k hks k1
        rw [← hx] at hsn
        have HSN := Lib.hid hsn; clear hsn hx
        have hlt' : (k : Int) < 10 := by omega
        have hks' : (k : Int) < (s.size : Int) := by omega
        have hk0 : (0 : Int) ≤ (k : Int) := by omega
        generalize hm : serL ((s.data.toList.drop 1).take (k - 1)) = m at l1 bd L
        have HM := Lib.hid hm; clear hm
        obtain ⟨bd1, bd2⟩ := bd
        go_wp2_with fail
        go_region
        go_wp2_with fail
        go_roundw
        case rel =>
          have hv : serL ((s.data.toList.drop 1).take (k + 1 - 1)) = 10 * m + (x.toNat : Int) - 48 := by rw [HSN.out, serL_snoc, HM.out]
          refine ⟨k + 1, by omega, by omega, by go_num, ?_, ?_, ?_⟩
          · first | exact P.far (p := ⟨w.heap.size + 1, 1, none⟩) (by simp only; omega) _ | exact Box.drew (P.far (p := ⟨w.heap.size + 1, 1, none⟩) (by simp only; omega) _)
          · rw [hv]
            first | exact L.set 1 _ | exact Box.drew (L.set 1 _)
          · repeat' (first | with_reducible exact hb | with_reducible refine Below.drew ?_ | with_reducible refine Below.setCell ?_ ?_ _ | (simp only; omega))
        case measure => simp [intOf]; omega
      · obtain rfl : k = 10 := by omega
        have hlt' : ¬ ((10 : Nat) : Int) < 10 := by omega
        have hT := ht.keep hb
        have hz : (s.extract 10 13).size ≤ maxLen := by have := extz s 10 13; unfold maxLen; omega
        have e9 : (s.data.toList.drop 1).take (10 - 1) = (s.data.toList.drop 1).take 9 := rfl
        rw [e9] at l1 bd L
        clear e9
        generalize hm : serL ((s.data.toList.drop 1).take 9) = m at l1 bd L
        have HM := Lib.hid hm; clear hm
        have n3 : wr.heap.size ≥ w.heap.size + 2 := L.lt
        go_wp2_with fail
        refine (flabS ((c.toNat : Int) - 48) m (s.extract 10 13) _ hz hT).mono ?_
        rintro e w3 ⟨r, rfl, HR, hr, b3⟩
        have HRS := Lib.hid hr; clear hr
        clear l0 l1 l2 lf
        replace P := P.keep b3
        replace L := L.keep b3
        have B4 := chain hb b3
        have p0 : w3.cell? ⟨w.heap.size, 0, none⟩ = some (.int .i64 0) := P.cell 0
        have p1 : w3.cell? ⟨w.heap.size, 1, none⟩ = some (.int .i64 0) := P.cell 1
        have p2 : w3.cell? ⟨w.heap.size, 2, none⟩ = some (.string ⟨#[]⟩) := P.cell 2
        have pf : ∀ j, w3.frozen? ⟨w.heap.size, j, none⟩ = false := fun j => P.frozen j
        have l0 : w3.cell? ⟨w.heap.size + 1, 0, none⟩ = some (.int .i64 ((c.toNat : Int) - 48)) := L.cell 0
        have l1 : w3.cell? ⟨w.heap.size + 1, 1, none⟩ = some (.int .i64 m) := L.cell 1
        have l2 : w3.cell? ⟨w.heap.size + 1, 2, none⟩ = some (.string (s.extract 10 13)) := L.cell 2
        cases hq : (r.toList == s.toList)
        · go_wp2_with fail
          refine bodyPost_ret (v := .tuple #[.agg #[.int .i64 0, .int .i64 0, .string ⟨#[]⟩], .bool false]) (by simp [results, Tryz.results18, go_sem, p0, p1, p2]) rfl ⟨zeroLab, false, rfl, cand_no HC.out (by rw [HM.out]; exact diff_list HR.out hq), ?_⟩
          repeat' (first | with_reducible exact B4 | with_reducible refine Below.setCell ?_ ?_ _ | (simp only; omega))
        · go_wp2_with fail
          refine bodyPost_ret (v := .tuple #[.agg #[.int .i64 ((c.toNat : Int) - 48), .int .i64 m, .string (s.extract 10 13)], .bool true]) (by simp [results, Tryz.results18, go_sem, p0, p1, p2]) rfl ⟨⟨(c.toNat : Int) - 48, m, s.extract 10 13⟩, true, rfl, lab_yes H15.out (same_list HR.out hq), ?_⟩
          repeat' (first | with_reducible exact B4 | with_reducible refine Below.setCell ?_ ?_ _ | (simp only; omega))
  · have HL := Lib.hid (lab_len (l := s.data.toList) (by rw [data_len]; exact h15))
    have g1 : ((s.size : Int) != 15) = true := by simp; omega
    go_enter Tryz.func18, Tryz.ntmps18
    go_wp2_with fail
    refine bodyPost_ret (v := .tuple #[.agg #[.int .i64 0, .int .i64 0, .string ⟨#[]⟩], .bool false]) (by simp [results, Tryz.results18, go_sem]) rfl ⟨zeroLab, false, rfl, HL.out, by go_grown⟩
end Go.Proofs.YteicnjemaemijaaGreatDoor
