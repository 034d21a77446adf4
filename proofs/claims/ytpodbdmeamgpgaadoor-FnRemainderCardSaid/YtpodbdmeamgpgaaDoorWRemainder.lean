/- The law FnRemainder walked: it returns true. No condition. -/
import Derived.Test.YtpodbdmeamgpgaaDoorLabFacts
namespace Go.Proofs.YtpodbdmeamgpgaaDoor
open Go.RowKit Go.PlainAid
open Go.Lib (itoa decDigits decDigits_two)
set_option maxRecDepth 100000
set_option linter.unusedVariables false
def modTexts : List ByteArray := [⟨#[]⟩, ⟨#[48]⟩, ⟨#[57, 54]⟩, ⟨#[57, 55]⟩, ⟨#[57, 56]⟩, ⟨#[57, 65]⟩, ⟨#[45, 49]⟩]
theorem modTexts_size : ∀ x ∈ modTexts, x.size ≤ 4 := by decide
theorem place_label {s : ByteArray} (h : s ∈ placeNames) : s.size ≤ maxLen := names_size (in_places h)
theorem flabOf_len (d : LabelD) : (flabOf d).length ≤ 15 := by
  cases hl : labOk d
  · rw [flabOf_no hl]; simp
  · rw [flabOf_yes hl, flab_len hl]; omega
theorem dpost_len {l : List UInt8} {q : ByteArray} (h : q.data.toList = if digOk l then digF l else []) : q.size ≤ 3 * l.length := by
  rw [← data_len, h]
  split
  · exact digF_len l
  · simp
set_option maxHeartbeats 3200000 in
theorem drawMod_any (xs : List Int) (v : Value) (w : World) (h : SliceOf w 1 vB v xs) (ht : Tabs w) : Calls Tryd.prog 39 #[v] w fun e w' => ∃ r : ByteArray, e = .returned (.string r) ∧ r.size ≤ 45 ∧ Below w.heap.size w w' := by
  obtain ⟨A, c, rfl, hle, hm⟩ := h.form
  go_enter Tryd.func39, Tryd.ntmps39
  go_wp2_with fail
  refine (new_any xs _ _ h).mono ?_
  rintro e w1 ⟨C, hC, rfl, c1, b1⟩
  go_wp2_with fail
  refine (label_any C _ c1).mono ?_
  rintro e w2 ⟨a, b, s, rfl, oa, ob, os, c2, s2⟩
  have B2 := s2.bel b1 hC
  have hT2 := ht.keep B2
  go_wp2_with fail
  refine (flabS a b s _ (place_label os) hT2).mono ?_
  rintro e w3 ⟨r, rfl, HR, hr, b3⟩
  have hrz : r.size ≤ 15 := by rw [hr]; exact flabOf_len _
  have HRS := Lib.hid hr; clear hr
  have B3 := chain B2 b3
  have c3 := c2.keep b3
  go_wp2_with fail
  refine (digitsS r _ (by omega)).mono ?_
  rintro e w4 ⟨q, rfl, HQ, b4⟩
  have hqz : q.size ≤ 45 := by have h1 := dpost_len HQ.out; rw [data_len] at h1; omega
  have B4 := chain B3 b4
  have c4 := c3.keep b4
  have hC4 : w.heap.size ≤ C := hC
  go_wp2_with fail
  refine (once_any C 4 _ c4 (by unfold okI; omega)).mono ?_
  rintro e w5 ⟨t, rfl, c5, s5⟩
  have B5 := s5.bel B4 hC
  cases t
  · go_wp2_with fail
    go_ret
    exact ⟨_, rfl, hqz, B5⟩
  · go_wp2_with fail
    have hS := lit_slice (f := Value.string) (vals := vS) (fun _ => rfl) modTexts 9 w5 #[.string ⟨#[]⟩, .string ⟨#[48]⟩, .string ⟨#[57, 54]⟩, .string ⟨#[57, 55]⟩, .string ⟨#[57, 56]⟩, .string ⟨#[57, 65]⟩, .string ⟨#[45, 49]⟩] rfl (by decide)
    have bS : Below w5.heap.size w5 (w5.alloc (.cells #[.string ⟨#[]⟩, .string ⟨#[48]⟩, .string ⟨#[57, 54]⟩, .string ⟨#[57, 55]⟩, .string ⟨#[57, 56]⟩, .string ⟨#[57, 65]⟩, .string ⟨#[45, 49]⟩] 9)) := by go_grown
    refine (str_any C modTexts _ _ (c5.keep bS) (by decide) hS (fun b off n c hv => by have := c5.lt; injection hv with e1 e2 e3; injection e1 with e1; injection e1 with e1 e2; omega)).mono ?_
    rintro e w6 ⟨y, rfl, hy, c6, s6⟩
    have hyz := modTexts_size y hy
    go_wp2_with fail
    go_ret
    exact ⟨_, rfl, by omega, s6.bel (chain B5 bS) hC⟩
theorem mod_nil {l : List UInt8} (h : l = []) : mod97 l = -1 := by subst h; rfl
theorem itoa_one {d : Int} (h0 : 0 ≤ d) (h1 : d ≤ 9) : itoa d = [UInt8.ofNat (48 + d.toNat)] := by rw [itoa_nat h0, dec_small (by omega)]
theorem mod_snoc {l : List UInt8} {d : Int} (h0 : 0 ≤ d) (h1 : d ≤ 9) : mod97 (l ++ itoa d) = if digs l then (10 * m97 l + d) % 97 else -1 := by
  rw [itoa_one h0 h1]
  unfold mod97
  rw [digs_snoc, digC_ofNat (by omega), m97_snoc]
  unfold stp
  rw [ofNat48 (by omega)]
  have e : (l ++ [UInt8.ofNat (48 + d.toNat)]).isEmpty = false := by cases l <;> rfl
  rw [e]
  cases digs l
  · rfl
  · simp only [Bool.and_true, Bool.not_false, if_true]
    congr 1; omega
set_option maxHeartbeats 8000000 in
theorem walk_Remainder (v0 : Value) (w : World) (h0 : VBytes w v0) (ht : Errs w) : Calls Tryd.prog 10 #[v0] w fun e w' => e = .returned (.bool true) ∧ Below w.heap.size w w' := by
  obtain ⟨xs, hxs, h⟩ := h0
  obtain ⟨A, c, rfl, hle, hm⟩ := h.form
  have hbig := fun W (hW : SliceOf W 1 vB (.slice A xs.length c) xs) => big_any xs _ W hW
  have HB := Lib.hid hbig; clear hbig
  cases hb : decide (4096 < (xs.length : Int))
  · go_enter Tryd.func10, Tryd.ntmps10
    go_wp2_with fail
    refine (HB.out _ h).mono ?_
    rintro e w0 ⟨rfl, rfl⟩
    go_wp2_with fail
    refine (drawMod_any xs _ _ h ht.1).mono ?_
    rintro e w1 ⟨r, rfl, hr, b1⟩
    have hT1 := ht.keep b1
    have HS := h.keep b1 (Nat.le_refl _)
    have a1 := atV_bd hxs 1
    have c1 := fun W (hW : SliceOf W 1 vB (.slice A xs.length c) xs) => at_any xs _ 1 W (by omega) hxs hW
    generalize atV xs 1 = x1 at a1 c1
    obtain ⟨a10, a11⟩ := a1
    have C1 := Lib.hid c1; clear c1
    have d0 : 0 ≤ x1 % 10 := by omega
    have d1 : x1 % 10 ≤ 9 := by omega
    have m1 := fun W => mod97I r W (by unfold maxLen; omega)
    have M1 := Lib.hid m1; clear m1
    go_wp2_with fail
    refine (M1.out _).mono ?_
    rintro e w2 ⟨rfl, rfl⟩
    go_wp2_with fail
    refine (C1.out _ HS).mono ?_
    rintro e w2 ⟨rfl, rfl⟩
    generalize hd : x1 % 10 = d at d0 d1
    have HDD := Lib.hid hd
    go_wp2_with fail
    refine (fmtI d _ (by unfold okI; omega) hT1.1).mono ?_
    rintro e w2 ⟨q, rfl, HQ, hq, b2⟩
    have hqz : q.size ≤ 21 := by have := Lib.itoa_length_le d (by omega) (by omega); omega
    have HQS := Lib.hid hq; clear hq
    have B2 := chain b1 b2
    have hT2 := hT1.keep b2
    go_wp2_with fail
    refine (parseI q _ (by omega) hT2).mono ?_
    rintro e w3 ⟨x, ok, rfl, HX, x0, x9, b3⟩
    have hx := HX.out
    rw [HQ.out] at hx
    obtain ⟨hx1, hx2⟩ := IsNum.of_itoa d0 (by omega) hx
    have ex : (x == d) = true := by simpa using hx1
    have B3 := chain B2 b3
    have hT3 := hT2.keep b3
    clear hx1 hx
    cases ok
    · cases hx2
    clear hx2
    go_wp2_with fail
    refine (fmtI d _ (by unfold okI; omega) hT3.1).mono ?_
    rintro e w4 ⟨p, rfl, HP, hp, b4⟩
    have hpz : p.size ≤ 21 := by have := Lib.itoa_length_le d (by omega) (by omega); omega
    have HPS := Lib.hid hp; clear hp
    have B4 := chain B3 b4
    have hmm : mod97 (r ++ p).data.toList = if digs r.data.toList then (10 * m97 r.data.toList + d) % 97 else -1 := by
      rw [ByteArray.data_append, Array.toList_append, HP.out, mod_snoc d0 d1]
    have m2 := fun W => mod97I (r ++ p) W (by unfold maxLen; rw [ByteArray.size_append]; omega)
    rw [hmm] at m2
    have M2 := Lib.hid m2; clear m2 hmm
    go_wp2_with fail
    refine (M2.out _).mono ?_
    rintro e w5 ⟨rfl, rfl⟩
    have bd := m97_bd r.data.toList
    by_cases he : r.size = 0
    · have hnil : r.data.toList = [] := by rw [← List.length_eq_zero_iff, data_len]; exact he
      have he1 := emp_of hnil
      have e1 : (if digs r.data.toList then (10 * m97 r.data.toList + d) % 97 else -1) = d := by
        rw [hnil]
        have : m97 [] = 0 := rfl
        have h2 : digs [] = true := rfl
        rw [h2, this, if_pos rfl]; omega
      have e2 : mod97 r.data.toList = -1 := mod_nil hnil
      rw [e1, e2]
      have edd : (d == d) = true := by simp
      clear e1 e2 hnil he bd
      go_wp2_with fail
      go_ret
      exact ⟨rfl, B4⟩
    · have he1 := notemp_of (r := r) he
      have hne : r.data.toList.isEmpty = false := by rw [← Lib.toList_data]; exact he1
      cases hg : digs r.data.toList
      · have e2 : mod97 r.data.toList = -1 := by unfold mod97; rw [hg]; rfl
        rw [e2]
        simp only [Bool.false_eq_true, if_false]
        clear e2 bd he hne
        go_wp2_with fail
        go_ret
        exact ⟨rfl, B4⟩
      · have e2 : mod97 r.data.toList = m97 r.data.toList := by unfold mod97; rw [hg, hne]; rfl
        rw [e2]
        simp only [if_true]
        generalize m97 r.data.toList = n at bd
        obtain ⟨n0, n1⟩ := bd
        have n2 : n < 97 := by omega
        have n3 : (n == -1) = false := by simp; omega
        have n4 : ((10 * n + d) % 97 == (10 * n + d) % 97) = true := by simp
        clear e2 he hne
        go_wp2_with fail
        go_ret
        exact ⟨rfl, B4⟩
  · go_enter Tryd.func10, Tryd.ntmps10
    go_wp2_with fail
    refine (HB.out _ h).mono ?_
    rintro e w0 ⟨rfl, rfl⟩
    go_wp2_with fail
    go_ret
    exact ⟨rfl, Below.refl _ _⟩
end Go.Proofs.YtpodbdmeamgpgaaDoor
