/- The plain law of the labels' check number: it finds one change and one exchange. No condition. -/
import Derived.Test.YteicnjemaemijaaGreatDoorStrKit
import Derived.Test.YteicnjemaemijaaGreatDoorLabel
namespace Go.Proofs.YteicnjemaemijaaGreatDoor
open Go.Lib Go.PlainAid
set_option maxRecDepth 100000
theorem digC_nat (c : UInt8) : digC c = true ↔ 48 ≤ c.toNat ∧ c.toNat ≤ 57 := by unfold digC; simp
theorem up_not_dig {c : UInt8} (h : upC c = true) : digC c = false := by rw [upC_iff] at h; rw [Bool.eq_false_iff, Ne, digC_nat]; omega
def expC (c : UInt8) : List UInt8 := if digC c then [c] else decDigits (c.toNat - 55)
def dokC (c : UInt8) : Bool := digC c || upC c
def digOk (l : List UInt8) : Bool := l.all dokC
def digF (l : List UInt8) : List UInt8 := l.flatMap expC
theorem digOk_append (l r : List UInt8) : digOk (l ++ r) = (digOk l && digOk r) := by unfold digOk; simp
theorem digF_append (l r : List UInt8) : digF (l ++ r) = digF l ++ digF r := by unfold digF; simp
theorem digs_digOk {l : List UInt8} (h : digs l = true) : digOk l = true := by
  unfold digs at h; unfold digOk
  rw [List.all_eq_true] at h ⊢
  intro x hx; unfold dokC; rw [h x hx]; rfl
theorem digF_digs : ∀ {l : List UInt8}, digs l = true → digF l = l
  | [], _ => rfl
  | c :: l, h => by
    rw [digs_cons, Bool.and_eq_true] at h
    show expC c ++ digF l = c :: l
    rw [digF_digs h.2]; unfold expC; rw [if_pos h.1]; rfl
theorem expC_digs (c : UInt8) : digs (expC c) = true := by
  unfold expC
  split
  · rename_i h1; unfold digs; simp [h1]
  · exact dec_digs _
theorem digF_isdigs : ∀ l : List UInt8, digs (digF l) = true
  | [] => rfl
  | c :: l => by
    show digs (expC c ++ digF l) = true
    rw [digs_append, expC_digs, digF_isdigs l]; rfl
theorem digF_nonempty : ∀ {l : List UInt8}, l ≠ [] → digF l ≠ []
  | [], h => absurd rfl h
  | c :: l, _ => by
    show expC c ++ digF l ≠ []
    unfold expC
    split
    · simp
    · simp [dec_ne]
/-- The number without remainders. -/
def lstp (m : Int) (c : UInt8) : Int := if digC c then 10 * m + ((c.toNat : Int) - 48) else 100 * m + ((c.toNat : Int) - 55)
def lin (l : List UInt8) : Int := l.foldl lstp 0
theorem lin_snoc (l : List UInt8) (c : UInt8) : lin (l ++ [c]) = lstp (lin l) c := by unfold lin; rw [List.foldl_append]; rfl
theorem m97_append2 (l : List UInt8) (a b : UInt8) : m97 (l ++ [a, b]) = stp (stp (m97 l) a) b := by
  rw [show l ++ [a, b] = (l ++ [a]) ++ [b] from by simp, m97_snoc, m97_snoc]
theorem exp_up {c : UInt8} (h : upC c = true) : expC c = [UInt8.ofNat (48 + (c.toNat - 55) / 10), UInt8.ofNat (48 + (c.toNat - 55) % 10)] := by
  unfold expC
  rw [up_not_dig h]
  rw [upC_iff] at h
  exact decDigits_two (by omega) (by omega)
theorem m97_lin_rev : ∀ (r : List UInt8), digOk r.reverse = true → m97 (digF r.reverse) = lin r.reverse % 97
  | [], _ => rfl
  | c :: r, h => by
    rw [List.reverse_cons] at h ⊢
    rw [digOk_append, Bool.and_eq_true] at h
    have ih := m97_lin_rev r h.1
    have hc : dokC c = true := by have := h.2; unfold digOk at this; simpa using this
    rw [digF_append, lin_snoc]
    have e : digF [c] = expC c := by unfold digF; simp
    rw [e]
    by_cases hd : digC c = true
    · have e2 : expC c = [c] := by unfold expC; rw [if_pos hd]
      rw [e2, m97_snoc, ih]
      unfold stp lstp
      rw [if_pos hd]
      omega
    · have hu : upC c = true := by unfold dokC at hc; rw [Bool.not_eq_true] at hd; rw [hd] at hc; simpa using hc
      rw [exp_up hu, m97_append2, ih]
      rw [upC_iff] at hu
      unfold stp lstp
      rw [if_neg hd, ofNat48 (by omega), ofNat48 (by omega)]
      have e1 : (((48 + (c.toNat - 55) / 10 : Nat) : Int)) = 48 + ((c.toNat : Int) - 55) / 10 := by omega
      have e2 : (((48 + (c.toNat - 55) % 10 : Nat) : Int)) = 48 + ((c.toNat : Int) - 55) % 10 := by omega
      rw [e1, e2]
      omega
theorem m97_lin {l : List UInt8} (h : digOk l = true) : m97 (digF l) = lin l % 97 := by
  have := m97_lin_rev l.reverse (by rw [List.reverse_reverse]; exact h)
  rwa [List.reverse_reverse] at this
theorem pad2 {n : Int} (h0 : 0 ≤ n) (h1 : n ≤ 99) : padL n 2 = [UInt8.ofNat (48 + n.toNat / 10), UInt8.ofNat (48 + n.toNat % 10)] := by
  unfold padL
  rw [itoa_nat h0]
  by_cases h : n.toNat < 10
  · rw [dec_small h, Nat.div_eq_of_lt h, Nat.mod_eq_of_lt h]; rfl
  · rw [decDigits_two h (by omega)]; rfl

/-- A label's text without its check, its check, its whole text. -/
def labOk (d : LabelD) : Bool := labB d.service d.serial d.dest
def bodyL (d : LabelD) : List UInt8 := itoa d.service ++ padL d.serial 9 ++ d.dest.data.toList
def chk (d : LabelD) : Int := 98 - m97 (digF (bodyL d) ++ [48, 48])
def flabL (d : LabelD) : List UInt8 := bodyL d ++ padL (chk d) 2
theorem chk_bd (d : LabelD) : 2 ≤ chk d ∧ chk d ≤ 98 := by unfold chk; have := m97_bd (digF (bodyL d) ++ [48, 48]); omega
theorem labOk_iff {d : LabelD} (h : labOk d = true) : (1 ≤ d.service ∧ d.service ≤ 3) ∧ (0 ≤ d.serial ∧ d.serial ≤ 999999999) ∧ plc d.dest = true := by
  unfold labOk labB at h
  simp only [Bool.and_eq_true, rng_iff] at h
  exact ⟨h.1.1, h.1.2, h.2⟩
theorem body_ok {d : LabelD} (h : labOk d = true) : digOk (bodyL d) = true := by
  obtain ⟨h1, h2, h3⟩ := labOk_iff h
  obtain ⟨x, y, z, e, hx, hy, hz⟩ := plc_list h3
  unfold bodyL
  rw [digOk_append, digOk_append, e, digs_digOk (pad_digs h2.1 9), itoa_nat (by omega), digs_digOk (dec_digs _)]
  unfold digOk
  simp [dokC, hx, hy, hz]
theorem service_text {n : Int} (h1 : 1 ≤ n) (h2 : n ≤ 3) : itoa n = [UInt8.ofNat (48 + n.toNat)] := by rw [itoa_nat (by omega), dec_small (by omega)]
theorem body_len {d : LabelD} (h : labOk d = true) : (bodyL d).length = 13 := by
  obtain ⟨h1, h2, h3⟩ := labOk_iff h
  obtain ⟨x, y, z, e, hx, hy, hz⟩ := plc_list h3
  unfold bodyL
  rw [List.length_append, List.length_append, e, service_text h1.1 h1.2, pad_len h2.1 (k := 8) (by omega)]
  rfl
theorem flab_len {d : LabelD} (h : labOk d = true) : (flabL d).length = 15 := by
  have := chk_bd d
  unfold flabL
  rw [List.length_append, body_len h, pad_len (by omega) (k := 1) (by omega)]
theorem flab_ok {d : LabelD} (h : labOk d = true) : digOk (flabL d) = true := by
  have := chk_bd d
  unfold flabL
  rw [digOk_append, body_ok h, digs_digOk (pad_digs (by omega) 2)]; rfl
theorem flab_lin {d : LabelD} (h : labOk d = true) : lin (flabL d) % 97 = 1 := by
  have hb := chk_bd d
  have hm : m97 (digF (bodyL d) ++ [48, 48]) = (100 * lin (bodyL d)) % 97 := by
    rw [m97_append2, m97_lin (body_ok h)]
    unfold stp
    have e : ((48 : UInt8).toNat : Int) = 48 := rfl
    rw [e]
    omega
  have hc : chk d = 98 - (100 * lin (bodyL d)) % 97 := by unfold chk; rw [hm]
  unfold flabL
  rw [pad2 (by omega) (by omega), show ∀ (l : List UInt8) (a b : UInt8), l ++ [a, b] = (l ++ [a]) ++ [b] from fun l a b => by simp, lin_snoc, lin_snoc]
  unfold lstp
  rw [digC_ofNat (by omega), digC_ofNat (by omega), ofNat48 (by omega), ofNat48 (by omega)]
  simp only [if_true]
  generalize lin (bodyL d) = L at *
  generalize chk d = q at *
  omega
theorem flab_mod {d : LabelD} (h : labOk d = true) : m97 (digF (flabL d)) = 1 := by rw [m97_lin (flab_ok h), flab_lin h]
theorem flab_ne {d : LabelD} (h : labOk d = true) : flabL d ≠ [] := by intro e; have := flab_len h; rw [e] at this; simp at this
theorem flab_inj {d e : LabelD} (h : labOk d = true) (k : labOk e = true) (eq : flabL d = flabL e) : d = e := by
  obtain ⟨h1, h2, h3⟩ := labOk_iff h
  obtain ⟨k1, k2, k3⟩ := labOk_iff k
  have e1 := (List.append_inj eq (by rw [body_len h, body_len k])).1
  unfold bodyL at e1
  have e2 := List.append_inj e1 (by rw [List.length_append, List.length_append, service_text h1.1 h1.2, service_text k1.1 k1.2, pad_len h2.1 (k := 8) (by omega), pad_len k2.1 (k := 8) (by omega)]; rfl)
  have e3 := List.append_inj e2.1 (by rw [service_text h1.1 h1.2, service_text k1.1 k1.2]; rfl)
  obtain ⟨a, b, c⟩ := d
  obtain ⟨a', b', c'⟩ := e
  simp only at *
  rw [itoa_inj e3.1, pad_inj h2.1 k2.1 e3.2, data_inj e2.2]

/-- Fifteen letters and digits, each in its place, that the check number fits. -/
def Lab15 (s : List UInt8) : Prop := ∃ b0 b1 b2 b3 b4 b5 b6 b7 b8 b9 b10 b11 b12 b13 b14 : UInt8, s = [b0, b1, b2, b3, b4, b5, b6, b7, b8, b9, b10, b11, b12, b13, b14] ∧ (48 ≤ b0.toNat ∧ b0.toNat ≤ 57) ∧ (48 ≤ b1.toNat ∧ b1.toNat ≤ 57) ∧ (48 ≤ b2.toNat ∧ b2.toNat ≤ 57) ∧ (48 ≤ b3.toNat ∧ b3.toNat ≤ 57) ∧ (48 ≤ b4.toNat ∧ b4.toNat ≤ 57) ∧ (48 ≤ b5.toNat ∧ b5.toNat ≤ 57) ∧ (48 ≤ b6.toNat ∧ b6.toNat ≤ 57) ∧ (48 ≤ b7.toNat ∧ b7.toNat ≤ 57) ∧ (48 ≤ b8.toNat ∧ b8.toNat ≤ 57) ∧ (48 ≤ b9.toNat ∧ b9.toNat ≤ 57) ∧ (65 ≤ b10.toNat ∧ b10.toNat ≤ 90) ∧ (65 ≤ b11.toNat ∧ b11.toNat ≤ 90) ∧ (65 ≤ b12.toNat ∧ b12.toNat ≤ 90) ∧ (48 ≤ b13.toNat ∧ b13.toNat ≤ 57) ∧ (48 ≤ b14.toNat ∧ b14.toNat ≤ 57) ∧ lin s % 97 = 1
theorem lab15_of {s : List UInt8} (hl : s.length = 15) (hd : ∀ (i : Nat) (c : UInt8), s[i]? = some c → i < 10 ∨ 13 ≤ i → digC c = true) (hu : ∀ (i : Nat) (c : UInt8), s[i]? = some c → 10 ≤ i → i < 13 → upC c = true) (hm : lin s % 97 = 1) : Lab15 s := by
  match s, hl with
  | [b0, b1, b2, b3, b4, b5, b6, b7, b8, b9, b10, b11, b12, b13, b14], _ =>
    have h0 : digC b0 = true := hd 0 b0 rfl (by omega)
    have h1 : digC b1 = true := hd 1 b1 rfl (by omega)
    have h2 : digC b2 = true := hd 2 b2 rfl (by omega)
    have h3 : digC b3 = true := hd 3 b3 rfl (by omega)
    have h4 : digC b4 = true := hd 4 b4 rfl (by omega)
    have h5 : digC b5 = true := hd 5 b5 rfl (by omega)
    have h6 : digC b6 = true := hd 6 b6 rfl (by omega)
    have h7 : digC b7 = true := hd 7 b7 rfl (by omega)
    have h8 : digC b8 = true := hd 8 b8 rfl (by omega)
    have h9 : digC b9 = true := hd 9 b9 rfl (by omega)
    have h10 : upC b10 = true := hu 10 b10 rfl (by omega) (by omega)
    have h11 : upC b11 = true := hu 11 b11 rfl (by omega) (by omega)
    have h12 : upC b12 = true := hu 12 b12 rfl (by omega) (by omega)
    have h13 : digC b13 = true := hd 13 b13 rfl (by omega)
    have h14 : digC b14 = true := hd 14 b14 rfl (by omega)
    refine ⟨b0, b1, b2, b3, b4, b5, b6, b7, b8, b9, b10, b11, b12, b13, b14, rfl, (digC_nat _).1 h0, (digC_nat _).1 h1, (digC_nat _).1 h2, (digC_nat _).1 h3, (digC_nat _).1 h4, (digC_nat _).1 h5, (digC_nat _).1 h6, (digC_nat _).1 h7, (digC_nat _).1 h8, (digC_nat _).1 h9, (upC_iff _).1 h10, (upC_iff _).1 h11, (upC_iff _).1 h12, (digC_nat _).1 h13, (digC_nat _).1 h14, hm⟩
theorem digs_at {l : List UInt8} (h : digs l = true) {i : Nat} {c : UInt8} (hc : l[i]? = some c) : digC c = true := by
  unfold digs at h; rw [List.all_eq_true] at h; exact h c (List.mem_of_getElem? hc)
theorem lab15_flab {d : LabelD} (h : labOk d = true) : Lab15 (flabL d) := by
  obtain ⟨h1, h2, h3⟩ := labOk_iff h
  obtain ⟨x, y, z, e, hx, hy, hz⟩ := plc_list h3
  have hb := chk_bd d
  have hA : digs (itoa d.service ++ padL d.serial 9) = true := by rw [digs_append, pad_digs h2.1, itoa_nat (by omega), dec_digs]; rfl
  have lA : (itoa d.service ++ padL d.serial 9).length = 10 := by rw [List.length_append, service_text h1.1 h1.2, pad_len h2.1 (k := 8) (by omega)]; rfl
  have hC : digs (padL (chk d) 2) = true := pad_digs (by omega) 2
  have es : flabL d = (itoa d.service ++ padL d.serial 9) ++ ([x, y, z] ++ padL (chk d) 2) := by unfold flabL bodyL; rw [e]; simp
  refine lab15_of (flab_len h) ?_ ?_ (flab_lin h)
  · intro i c hc hi
    rw [es] at hc
    rcases hi with hi | hi
    · rw [List.getElem?_append_left (by omega)] at hc; exact digs_at hA hc
    · rw [List.getElem?_append_right (by omega), lA, List.getElem?_append_right (by simp; omega)] at hc; exact digs_at hC hc
  · intro i c hc hi hi'
    rw [es, List.getElem?_append_right (by omega), lA, List.getElem?_append_left (by simp; omega)] at hc
    rcases (show i = 10 ∨ i = 11 ∨ i = 12 by omega) with rfl | rfl | rfl <;> simp at hc <;> subst hc <;> assumption
theorem red (X R q w : Int) {W : Int} (hW : W = 97 * q + w) : (X * W + R) % 97 = (X * w + R) % 97 := by
  subst hW
  rw [Int.mul_add, Int.add_assoc, Int.add_comm, Int.mul_left_comm, Int.add_mul_emod_self_left]
def wt (c : UInt8) : Int := if digC c then 10 else 100
def W : List UInt8 → Int
  | [] => 1
  | c :: r => wt c * W r
theorem lstp_wt (m : Int) (c : UInt8) : lstp m c = m * wt c + lstp 0 c := by unfold lstp wt; split <;> omega
theorem linF_eq : ∀ (r : List UInt8) (m : Int), r.foldl lstp m = m * W r + lin r
  | [], m => by simp [lin, W]
  | c :: r, m => by
    have e : lin (c :: r) = r.foldl lstp (lstp 0 c) := rfl
    rw [List.foldl_cons, linF_eq r, e, linF_eq r, lstp_wt m c, W, Int.add_mul, Int.mul_assoc, Int.add_assoc]
theorem lin_mid (p r : List UInt8) (c : UInt8) : lin (p ++ c :: r) = lstp (lin p) c * W r + lin r := by
  have e : lin (p ++ c :: r) = r.foldl lstp (lstp (lin p) c) := by unfold lin; rw [List.foldl_append]; rfl
  rw [e, linF_eq]
theorem lin_mid2 (p r : List UInt8) (c d : UInt8) : lin (p ++ c :: d :: r) = lstp (lstp (lin p) c) d * W r + lin r := by
  have e : lin (p ++ c :: d :: r) = r.foldl lstp (lstp (lstp (lin p) c) d) := by unfold lin; rw [List.foldl_append]; rfl
  rw [e, linF_eq]
theorem lstp_dig {m : Int} {c : UInt8} (h : 48 ≤ c.toNat ∧ c.toNat ≤ 57) : lstp m c = 10 * m + ((c.toNat : Int) - 48) := by unfold lstp; rw [if_pos ((digC_nat c).2 h)]
theorem lstp_up {m : Int} {c : UInt8} (h : 65 ≤ c.toNat ∧ c.toNat ≤ 90) : lstp m c = 100 * m + ((c.toNat : Int) - 55) := by unfold lstp; rw [if_neg (by rw [up_not_dig ((upC_iff c).2 h)]; simp)]
theorem wt_dig {c : UInt8} (h : 48 ≤ c.toNat ∧ c.toNat ≤ 57) : wt c = 10 := by unfold wt; rw [if_pos ((digC_nat c).2 h)]
theorem wt_up {c : UInt8} (h : 65 ≤ c.toNat ∧ c.toNat ≤ 90) : wt c = 100 := by unfold wt; rw [if_neg (by rw [up_not_dig ((upC_iff c).2 h)]; simp)]
theorem chg_0 (P R : Int) (x y : Nat) (hx : 48 ≤ x ∧ x ≤ 57) (hy : 48 ≤ y ∧ y ≤ 57) (h1 : ((10 * P + ((x : Int) - 48)) * 100000000000000000 + R) % 97 = 1) (h2 : ((10 * P + ((y : Int) - 48)) * 100000000000000000 + R) % 97 = 1) : x = y := by
  rw [red _ _ 1030927835051546 38 (by omega)] at h1 h2
  omega
theorem chg_1 (P R : Int) (x y : Nat) (hx : 48 ≤ x ∧ x ≤ 57) (hy : 48 ≤ y ∧ y ≤ 57) (h1 : ((10 * P + ((x : Int) - 48)) * 10000000000000000 + R) % 97 = 1) (h2 : ((10 * P + ((y : Int) - 48)) * 10000000000000000 + R) % 97 = 1) : x = y := by
  rw [red _ _ 103092783505154 62 (by omega)] at h1 h2
  omega
theorem chg_2 (P R : Int) (x y : Nat) (hx : 48 ≤ x ∧ x ≤ 57) (hy : 48 ≤ y ∧ y ≤ 57) (h1 : ((10 * P + ((x : Int) - 48)) * 1000000000000000 + R) % 97 = 1) (h2 : ((10 * P + ((y : Int) - 48)) * 1000000000000000 + R) % 97 = 1) : x = y := by
  rw [red _ _ 10309278350515 45 (by omega)] at h1 h2
  omega
theorem chg_3 (P R : Int) (x y : Nat) (hx : 48 ≤ x ∧ x ≤ 57) (hy : 48 ≤ y ∧ y ≤ 57) (h1 : ((10 * P + ((x : Int) - 48)) * 100000000000000 + R) % 97 = 1) (h2 : ((10 * P + ((y : Int) - 48)) * 100000000000000 + R) % 97 = 1) : x = y := by
  rw [red _ _ 1030927835051 53 (by omega)] at h1 h2
  omega
theorem chg_4 (P R : Int) (x y : Nat) (hx : 48 ≤ x ∧ x ≤ 57) (hy : 48 ≤ y ∧ y ≤ 57) (h1 : ((10 * P + ((x : Int) - 48)) * 10000000000000 + R) % 97 = 1) (h2 : ((10 * P + ((y : Int) - 48)) * 10000000000000 + R) % 97 = 1) : x = y := by
  rw [red _ _ 103092783505 15 (by omega)] at h1 h2
  omega
theorem chg_5 (P R : Int) (x y : Nat) (hx : 48 ≤ x ∧ x ≤ 57) (hy : 48 ≤ y ∧ y ≤ 57) (h1 : ((10 * P + ((x : Int) - 48)) * 1000000000000 + R) % 97 = 1) (h2 : ((10 * P + ((y : Int) - 48)) * 1000000000000 + R) % 97 = 1) : x = y := by
  rw [red _ _ 10309278350 50 (by omega)] at h1 h2
  omega
theorem chg_6 (P R : Int) (x y : Nat) (hx : 48 ≤ x ∧ x ≤ 57) (hy : 48 ≤ y ∧ y ≤ 57) (h1 : ((10 * P + ((x : Int) - 48)) * 100000000000 + R) % 97 = 1) (h2 : ((10 * P + ((y : Int) - 48)) * 100000000000 + R) % 97 = 1) : x = y := by
  rw [red _ _ 1030927835 5 (by omega)] at h1 h2
  omega
theorem chg_7 (P R : Int) (x y : Nat) (hx : 48 ≤ x ∧ x ≤ 57) (hy : 48 ≤ y ∧ y ≤ 57) (h1 : ((10 * P + ((x : Int) - 48)) * 10000000000 + R) % 97 = 1) (h2 : ((10 * P + ((y : Int) - 48)) * 10000000000 + R) % 97 = 1) : x = y := by
  rw [red _ _ 103092783 49 (by omega)] at h1 h2
  omega
theorem chg_8 (P R : Int) (x y : Nat) (hx : 48 ≤ x ∧ x ≤ 57) (hy : 48 ≤ y ∧ y ≤ 57) (h1 : ((10 * P + ((x : Int) - 48)) * 1000000000 + R) % 97 = 1) (h2 : ((10 * P + ((y : Int) - 48)) * 1000000000 + R) % 97 = 1) : x = y := by
  rw [red _ _ 10309278 34 (by omega)] at h1 h2
  omega
theorem chg_9 (P R : Int) (x y : Nat) (hx : 48 ≤ x ∧ x ≤ 57) (hy : 48 ≤ y ∧ y ≤ 57) (h1 : ((10 * P + ((x : Int) - 48)) * 100000000 + R) % 97 = 1) (h2 : ((10 * P + ((y : Int) - 48)) * 100000000 + R) % 97 = 1) : x = y := by
  rw [red _ _ 1030927 81 (by omega)] at h1 h2
  omega
theorem chg_10 (P R : Int) (x y : Nat) (hx : 65 ≤ x ∧ x ≤ 90) (hy : 65 ≤ y ∧ y ≤ 90) (h1 : ((100 * P + ((x : Int) - 55)) * 1000000 + R) % 97 = 1) (h2 : ((100 * P + ((y : Int) - 55)) * 1000000 + R) % 97 = 1) : x = y := by
  rw [red _ _ 10309 27 (by omega)] at h1 h2
  omega
theorem chg_11 (P R : Int) (x y : Nat) (hx : 65 ≤ x ∧ x ≤ 90) (hy : 65 ≤ y ∧ y ≤ 90) (h1 : ((100 * P + ((x : Int) - 55)) * 10000 + R) % 97 = 1) (h2 : ((100 * P + ((y : Int) - 55)) * 10000 + R) % 97 = 1) : x = y := by
  rw [red _ _ 103 9 (by omega)] at h1 h2
  omega
theorem chg_12 (P R : Int) (x y : Nat) (hx : 65 ≤ x ∧ x ≤ 90) (hy : 65 ≤ y ∧ y ≤ 90) (h1 : ((100 * P + ((x : Int) - 55)) * 100 + R) % 97 = 1) (h2 : ((100 * P + ((y : Int) - 55)) * 100 + R) % 97 = 1) : x = y := by
  rw [red _ _ 1 3 (by omega)] at h1 h2
  omega
theorem chg_13 (P R : Int) (x y : Nat) (hx : 48 ≤ x ∧ x ≤ 57) (hy : 48 ≤ y ∧ y ≤ 57) (h1 : ((10 * P + ((x : Int) - 48)) * 10 + R) % 97 = 1) (h2 : ((10 * P + ((y : Int) - 48)) * 10 + R) % 97 = 1) : x = y := by
  rw [red _ _ 0 10 (by omega)] at h1 h2
  omega
theorem chg_14 (P R : Int) (x y : Nat) (hx : 48 ≤ x ∧ x ≤ 57) (hy : 48 ≤ y ∧ y ≤ 57) (h1 : ((10 * P + ((x : Int) - 48)) * 1 + R) % 97 = 1) (h2 : ((10 * P + ((y : Int) - 48)) * 1 + R) % 97 = 1) : x = y := by
  rw [red _ _ 0 1 (by omega)] at h1 h2
  omega
theorem swp_0 (P R : Int) (x y : Nat) (hx : 48 ≤ x ∧ x ≤ 57) (hy : 48 ≤ y ∧ y ≤ 57) (h1 : ((10 * (10 * P + ((x : Int) - 48)) + ((y : Int) - 48)) * 10000000000000000 + R) % 97 = 1) (h2 : ((10 * (10 * P + ((y : Int) - 48)) + ((x : Int) - 48)) * 10000000000000000 + R) % 97 = 1) : x = y := by
  rw [red _ _ 103092783505154 62 (by omega)] at h1 h2
  omega
theorem swp_1 (P R : Int) (x y : Nat) (hx : 48 ≤ x ∧ x ≤ 57) (hy : 48 ≤ y ∧ y ≤ 57) (h1 : ((10 * (10 * P + ((x : Int) - 48)) + ((y : Int) - 48)) * 1000000000000000 + R) % 97 = 1) (h2 : ((10 * (10 * P + ((y : Int) - 48)) + ((x : Int) - 48)) * 1000000000000000 + R) % 97 = 1) : x = y := by
  rw [red _ _ 10309278350515 45 (by omega)] at h1 h2
  omega
theorem swp_2 (P R : Int) (x y : Nat) (hx : 48 ≤ x ∧ x ≤ 57) (hy : 48 ≤ y ∧ y ≤ 57) (h1 : ((10 * (10 * P + ((x : Int) - 48)) + ((y : Int) - 48)) * 100000000000000 + R) % 97 = 1) (h2 : ((10 * (10 * P + ((y : Int) - 48)) + ((x : Int) - 48)) * 100000000000000 + R) % 97 = 1) : x = y := by
  rw [red _ _ 1030927835051 53 (by omega)] at h1 h2
  omega
theorem swp_3 (P R : Int) (x y : Nat) (hx : 48 ≤ x ∧ x ≤ 57) (hy : 48 ≤ y ∧ y ≤ 57) (h1 : ((10 * (10 * P + ((x : Int) - 48)) + ((y : Int) - 48)) * 10000000000000 + R) % 97 = 1) (h2 : ((10 * (10 * P + ((y : Int) - 48)) + ((x : Int) - 48)) * 10000000000000 + R) % 97 = 1) : x = y := by
  rw [red _ _ 103092783505 15 (by omega)] at h1 h2
  omega
theorem swp_4 (P R : Int) (x y : Nat) (hx : 48 ≤ x ∧ x ≤ 57) (hy : 48 ≤ y ∧ y ≤ 57) (h1 : ((10 * (10 * P + ((x : Int) - 48)) + ((y : Int) - 48)) * 1000000000000 + R) % 97 = 1) (h2 : ((10 * (10 * P + ((y : Int) - 48)) + ((x : Int) - 48)) * 1000000000000 + R) % 97 = 1) : x = y := by
  rw [red _ _ 10309278350 50 (by omega)] at h1 h2
  omega
theorem swp_5 (P R : Int) (x y : Nat) (hx : 48 ≤ x ∧ x ≤ 57) (hy : 48 ≤ y ∧ y ≤ 57) (h1 : ((10 * (10 * P + ((x : Int) - 48)) + ((y : Int) - 48)) * 100000000000 + R) % 97 = 1) (h2 : ((10 * (10 * P + ((y : Int) - 48)) + ((x : Int) - 48)) * 100000000000 + R) % 97 = 1) : x = y := by
  rw [red _ _ 1030927835 5 (by omega)] at h1 h2
  omega
theorem swp_6 (P R : Int) (x y : Nat) (hx : 48 ≤ x ∧ x ≤ 57) (hy : 48 ≤ y ∧ y ≤ 57) (h1 : ((10 * (10 * P + ((x : Int) - 48)) + ((y : Int) - 48)) * 10000000000 + R) % 97 = 1) (h2 : ((10 * (10 * P + ((y : Int) - 48)) + ((x : Int) - 48)) * 10000000000 + R) % 97 = 1) : x = y := by
  rw [red _ _ 103092783 49 (by omega)] at h1 h2
  omega
theorem swp_7 (P R : Int) (x y : Nat) (hx : 48 ≤ x ∧ x ≤ 57) (hy : 48 ≤ y ∧ y ≤ 57) (h1 : ((10 * (10 * P + ((x : Int) - 48)) + ((y : Int) - 48)) * 1000000000 + R) % 97 = 1) (h2 : ((10 * (10 * P + ((y : Int) - 48)) + ((x : Int) - 48)) * 1000000000 + R) % 97 = 1) : x = y := by
  rw [red _ _ 10309278 34 (by omega)] at h1 h2
  omega
theorem swp_8 (P R : Int) (x y : Nat) (hx : 48 ≤ x ∧ x ≤ 57) (hy : 48 ≤ y ∧ y ≤ 57) (h1 : ((10 * (10 * P + ((x : Int) - 48)) + ((y : Int) - 48)) * 100000000 + R) % 97 = 1) (h2 : ((10 * (10 * P + ((y : Int) - 48)) + ((x : Int) - 48)) * 100000000 + R) % 97 = 1) : x = y := by
  rw [red _ _ 1030927 81 (by omega)] at h1 h2
  omega
theorem swp_10 (P R : Int) (x y : Nat) (hx : 65 ≤ x ∧ x ≤ 90) (hy : 65 ≤ y ∧ y ≤ 90) (h1 : ((100 * (100 * P + ((x : Int) - 55)) + ((y : Int) - 55)) * 10000 + R) % 97 = 1) (h2 : ((100 * (100 * P + ((y : Int) - 55)) + ((x : Int) - 55)) * 10000 + R) % 97 = 1) : x = y := by
  rw [red _ _ 103 9 (by omega)] at h1 h2
  omega
theorem swp_11 (P R : Int) (x y : Nat) (hx : 65 ≤ x ∧ x ≤ 90) (hy : 65 ≤ y ∧ y ≤ 90) (h1 : ((100 * (100 * P + ((x : Int) - 55)) + ((y : Int) - 55)) * 100 + R) % 97 = 1) (h2 : ((100 * (100 * P + ((y : Int) - 55)) + ((x : Int) - 55)) * 100 + R) % 97 = 1) : x = y := by
  rw [red _ _ 1 3 (by omega)] at h1 h2
  omega
theorem swp_13 (P R : Int) (x y : Nat) (hx : 48 ≤ x ∧ x ≤ 57) (hy : 48 ≤ y ∧ y ≤ 57) (h1 : ((10 * (10 * P + ((x : Int) - 48)) + ((y : Int) - 48)) * 1 + R) % 97 = 1) (h2 : ((10 * (10 * P + ((y : Int) - 48)) + ((x : Int) - 48)) * 1 + R) % 97 = 1) : x = y := by
  rw [red _ _ 0 1 (by omega)] at h1 h2
  omega
set_option maxHeartbeats 8000000 in
theorem one_change {s t : List UInt8} (hs : Lab15 s) (ht : Lab15 t) {i : Nat} (hi : i < 15) (h : ∀ j, j ≠ i → s[j]? = t[j]?) : s = t := by
  obtain ⟨b0, b1, b2, b3, b4, b5, b6, b7, b8, b9, b10, b11, b12, b13, b14, rfl, p0, p1, p2, p3, p4, p5, p6, p7, p8, p9, p10, p11, p12, p13, p14, hm⟩ := hs
  obtain ⟨d0, d1, d2, d3, d4, d5, d6, d7, d8, d9, d10, d11, d12, d13, d14, rfl, q0, q1, q2, q3, q4, q5, q6, q7, q8, q9, q10, q11, q12, q13, q14, km⟩ := ht
  rcases (show i = 0 ∨ i = 1 ∨ i = 2 ∨ i = 3 ∨ i = 4 ∨ i = 5 ∨ i = 6 ∨ i = 7 ∨ i = 8 ∨ i = 9 ∨ i = 10 ∨ i = 11 ∨ i = 12 ∨ i = 13 ∨ i = 14 by omega) with rfl | rfl | rfl | rfl | rfl | rfl | rfl | rfl | rfl | rfl | rfl | rfl | rfl | rfl | rfl
  · -- 0
    have e1 : b1 = d1 := by have := h 1 (by omega); simpa using this
    subst e1
    have e2 : b2 = d2 := by have := h 2 (by omega); simpa using this
    subst e2
    have e3 : b3 = d3 := by have := h 3 (by omega); simpa using this
    subst e3
    have e4 : b4 = d4 := by have := h 4 (by omega); simpa using this
    subst e4
    have e5 : b5 = d5 := by have := h 5 (by omega); simpa using this
    subst e5
    have e6 : b6 = d6 := by have := h 6 (by omega); simpa using this
    subst e6
    have e7 : b7 = d7 := by have := h 7 (by omega); simpa using this
    subst e7
    have e8 : b8 = d8 := by have := h 8 (by omega); simpa using this
    subst e8
    have e9 : b9 = d9 := by have := h 9 (by omega); simpa using this
    subst e9
    have e10 : b10 = d10 := by have := h 10 (by omega); simpa using this
    subst e10
    have e11 : b11 = d11 := by have := h 11 (by omega); simpa using this
    subst e11
    have e12 : b12 = d12 := by have := h 12 (by omega); simpa using this
    subst e12
    have e13 : b13 = d13 := by have := h 13 (by omega); simpa using this
    subst e13
    have e14 : b14 = d14 := by have := h 14 (by omega); simpa using this
    subst e14
    have w : W [b1, b2, b3, b4, b5, b6, b7, b8, b9, b10, b11, b12, b13, b14] = 100000000000000000 := by simp only [W, wt_dig p1, wt_dig p2, wt_dig p3, wt_dig p4, wt_dig p5, wt_dig p6, wt_dig p7, wt_dig p8, wt_dig p9, wt_up p10, wt_up p11, wt_up p12, wt_dig p13, wt_dig p14] <;> rfl
    have f1 : lin [b0, b1, b2, b3, b4, b5, b6, b7, b8, b9, b10, b11, b12, b13, b14] = lstp (lin []) b0 * W [b1, b2, b3, b4, b5, b6, b7, b8, b9, b10, b11, b12, b13, b14] + lin [b1, b2, b3, b4, b5, b6, b7, b8, b9, b10, b11, b12, b13, b14] := lin_mid [] [b1, b2, b3, b4, b5, b6, b7, b8, b9, b10, b11, b12, b13, b14] b0
    have f2 : lin [d0, b1, b2, b3, b4, b5, b6, b7, b8, b9, b10, b11, b12, b13, b14] = lstp (lin []) d0 * W [b1, b2, b3, b4, b5, b6, b7, b8, b9, b10, b11, b12, b13, b14] + lin [b1, b2, b3, b4, b5, b6, b7, b8, b9, b10, b11, b12, b13, b14] := lin_mid [] [b1, b2, b3, b4, b5, b6, b7, b8, b9, b10, b11, b12, b13, b14] d0
    rw [f1, lstp_dig p0, w] at hm
    rw [f2, lstp_dig q0, w] at km
    rw [UInt8.toNat_inj.1 (chg_0 _ _ _ _ p0 q0 hm km)]
  · -- 1
    have e0 : b0 = d0 := by have := h 0 (by omega); simpa using this
    subst e0
    have e2 : b2 = d2 := by have := h 2 (by omega); simpa using this
    subst e2
    have e3 : b3 = d3 := by have := h 3 (by omega); simpa using this
    subst e3
    have e4 : b4 = d4 := by have := h 4 (by omega); simpa using this
    subst e4
    have e5 : b5 = d5 := by have := h 5 (by omega); simpa using this
    subst e5
    have e6 : b6 = d6 := by have := h 6 (by omega); simpa using this
    subst e6
    have e7 : b7 = d7 := by have := h 7 (by omega); simpa using this
    subst e7
    have e8 : b8 = d8 := by have := h 8 (by omega); simpa using this
    subst e8
    have e9 : b9 = d9 := by have := h 9 (by omega); simpa using this
    subst e9
    have e10 : b10 = d10 := by have := h 10 (by omega); simpa using this
    subst e10
    have e11 : b11 = d11 := by have := h 11 (by omega); simpa using this
    subst e11
    have e12 : b12 = d12 := by have := h 12 (by omega); simpa using this
    subst e12
    have e13 : b13 = d13 := by have := h 13 (by omega); simpa using this
    subst e13
    have e14 : b14 = d14 := by have := h 14 (by omega); simpa using this
    subst e14
    have w : W [b2, b3, b4, b5, b6, b7, b8, b9, b10, b11, b12, b13, b14] = 10000000000000000 := by simp only [W, wt_dig p2, wt_dig p3, wt_dig p4, wt_dig p5, wt_dig p6, wt_dig p7, wt_dig p8, wt_dig p9, wt_up p10, wt_up p11, wt_up p12, wt_dig p13, wt_dig p14] <;> rfl
    have f1 : lin [b0, b1, b2, b3, b4, b5, b6, b7, b8, b9, b10, b11, b12, b13, b14] = lstp (lin [b0]) b1 * W [b2, b3, b4, b5, b6, b7, b8, b9, b10, b11, b12, b13, b14] + lin [b2, b3, b4, b5, b6, b7, b8, b9, b10, b11, b12, b13, b14] := lin_mid [b0] [b2, b3, b4, b5, b6, b7, b8, b9, b10, b11, b12, b13, b14] b1
    have f2 : lin [b0, d1, b2, b3, b4, b5, b6, b7, b8, b9, b10, b11, b12, b13, b14] = lstp (lin [b0]) d1 * W [b2, b3, b4, b5, b6, b7, b8, b9, b10, b11, b12, b13, b14] + lin [b2, b3, b4, b5, b6, b7, b8, b9, b10, b11, b12, b13, b14] := lin_mid [b0] [b2, b3, b4, b5, b6, b7, b8, b9, b10, b11, b12, b13, b14] d1
    rw [f1, lstp_dig p1, w] at hm
    rw [f2, lstp_dig q1, w] at km
    rw [UInt8.toNat_inj.1 (chg_1 _ _ _ _ p1 q1 hm km)]
  · -- 2
    have e0 : b0 = d0 := by have := h 0 (by omega); simpa using this
    subst e0
    have e1 : b1 = d1 := by have := h 1 (by omega); simpa using this
    subst e1
    have e3 : b3 = d3 := by have := h 3 (by omega); simpa using this
    subst e3
    have e4 : b4 = d4 := by have := h 4 (by omega); simpa using this
    subst e4
    have e5 : b5 = d5 := by have := h 5 (by omega); simpa using this
    subst e5
    have e6 : b6 = d6 := by have := h 6 (by omega); simpa using this
    subst e6
    have e7 : b7 = d7 := by have := h 7 (by omega); simpa using this
    subst e7
    have e8 : b8 = d8 := by have := h 8 (by omega); simpa using this
    subst e8
    have e9 : b9 = d9 := by have := h 9 (by omega); simpa using this
    subst e9
    have e10 : b10 = d10 := by have := h 10 (by omega); simpa using this
    subst e10
    have e11 : b11 = d11 := by have := h 11 (by omega); simpa using this
    subst e11
    have e12 : b12 = d12 := by have := h 12 (by omega); simpa using this
    subst e12
    have e13 : b13 = d13 := by have := h 13 (by omega); simpa using this
    subst e13
    have e14 : b14 = d14 := by have := h 14 (by omega); simpa using this
    subst e14
    have w : W [b3, b4, b5, b6, b7, b8, b9, b10, b11, b12, b13, b14] = 1000000000000000 := by simp only [W, wt_dig p3, wt_dig p4, wt_dig p5, wt_dig p6, wt_dig p7, wt_dig p8, wt_dig p9, wt_up p10, wt_up p11, wt_up p12, wt_dig p13, wt_dig p14] <;> rfl
    have f1 : lin [b0, b1, b2, b3, b4, b5, b6, b7, b8, b9, b10, b11, b12, b13, b14] = lstp (lin [b0, b1]) b2 * W [b3, b4, b5, b6, b7, b8, b9, b10, b11, b12, b13, b14] + lin [b3, b4, b5, b6, b7, b8, b9, b10, b11, b12, b13, b14] := lin_mid [b0, b1] [b3, b4, b5, b6, b7, b8, b9, b10, b11, b12, b13, b14] b2
    have f2 : lin [b0, b1, d2, b3, b4, b5, b6, b7, b8, b9, b10, b11, b12, b13, b14] = lstp (lin [b0, b1]) d2 * W [b3, b4, b5, b6, b7, b8, b9, b10, b11, b12, b13, b14] + lin [b3, b4, b5, b6, b7, b8, b9, b10, b11, b12, b13, b14] := lin_mid [b0, b1] [b3, b4, b5, b6, b7, b8, b9, b10, b11, b12, b13, b14] d2
    rw [f1, lstp_dig p2, w] at hm
    rw [f2, lstp_dig q2, w] at km
    rw [UInt8.toNat_inj.1 (chg_2 _ _ _ _ p2 q2 hm km)]
  · -- 3
    have e0 : b0 = d0 := by have := h 0 (by omega); simpa using this
    subst e0
    have e1 : b1 = d1 := by have := h 1 (by omega); simpa using this
    subst e1
    have e2 : b2 = d2 := by have := h 2 (by omega); simpa using this
    subst e2
    have e4 : b4 = d4 := by have := h 4 (by omega); simpa using this
    subst e4
    have e5 : b5 = d5 := by have := h 5 (by omega); simpa using this
    subst e5
    have e6 : b6 = d6 := by have := h 6 (by omega); simpa using this
    subst e6
    have e7 : b7 = d7 := by have := h 7 (by omega); simpa using this
    subst e7
    have e8 : b8 = d8 := by have := h 8 (by omega); simpa using this
    subst e8
    have e9 : b9 = d9 := by have := h 9 (by omega); simpa using this
    subst e9
    have e10 : b10 = d10 := by have := h 10 (by omega); simpa using this
    subst e10
    have e11 : b11 = d11 := by have := h 11 (by omega); simpa using this
    subst e11
    have e12 : b12 = d12 := by have := h 12 (by omega); simpa using this
    subst e12
    have e13 : b13 = d13 := by have := h 13 (by omega); simpa using this
    subst e13
    have e14 : b14 = d14 := by have := h 14 (by omega); simpa using this
    subst e14
    have w : W [b4, b5, b6, b7, b8, b9, b10, b11, b12, b13, b14] = 100000000000000 := by simp only [W, wt_dig p4, wt_dig p5, wt_dig p6, wt_dig p7, wt_dig p8, wt_dig p9, wt_up p10, wt_up p11, wt_up p12, wt_dig p13, wt_dig p14] <;> rfl
    have f1 : lin [b0, b1, b2, b3, b4, b5, b6, b7, b8, b9, b10, b11, b12, b13, b14] = lstp (lin [b0, b1, b2]) b3 * W [b4, b5, b6, b7, b8, b9, b10, b11, b12, b13, b14] + lin [b4, b5, b6, b7, b8, b9, b10, b11, b12, b13, b14] := lin_mid [b0, b1, b2] [b4, b5, b6, b7, b8, b9, b10, b11, b12, b13, b14] b3
    have f2 : lin [b0, b1, b2, d3, b4, b5, b6, b7, b8, b9, b10, b11, b12, b13, b14] = lstp (lin [b0, b1, b2]) d3 * W [b4, b5, b6, b7, b8, b9, b10, b11, b12, b13, b14] + lin [b4, b5, b6, b7, b8, b9, b10, b11, b12, b13, b14] := lin_mid [b0, b1, b2] [b4, b5, b6, b7, b8, b9, b10, b11, b12, b13, b14] d3
    rw [f1, lstp_dig p3, w] at hm
    rw [f2, lstp_dig q3, w] at km
    rw [UInt8.toNat_inj.1 (chg_3 _ _ _ _ p3 q3 hm km)]
  · -- 4
    have e0 : b0 = d0 := by have := h 0 (by omega); simpa using this
    subst e0
    have e1 : b1 = d1 := by have := h 1 (by omega); simpa using this
    subst e1
    have e2 : b2 = d2 := by have := h 2 (by omega); simpa using this
    subst e2
    have e3 : b3 = d3 := by have := h 3 (by omega); simpa using this
    subst e3
    have e5 : b5 = d5 := by have := h 5 (by omega); simpa using this
    subst e5
    have e6 : b6 = d6 := by have := h 6 (by omega); simpa using this
    subst e6
    have e7 : b7 = d7 := by have := h 7 (by omega); simpa using this
    subst e7
    have e8 : b8 = d8 := by have := h 8 (by omega); simpa using this
    subst e8
    have e9 : b9 = d9 := by have := h 9 (by omega); simpa using this
    subst e9
    have e10 : b10 = d10 := by have := h 10 (by omega); simpa using this
    subst e10
    have e11 : b11 = d11 := by have := h 11 (by omega); simpa using this
    subst e11
    have e12 : b12 = d12 := by have := h 12 (by omega); simpa using this
    subst e12
    have e13 : b13 = d13 := by have := h 13 (by omega); simpa using this
    subst e13
    have e14 : b14 = d14 := by have := h 14 (by omega); simpa using this
    subst e14
    have w : W [b5, b6, b7, b8, b9, b10, b11, b12, b13, b14] = 10000000000000 := by simp only [W, wt_dig p5, wt_dig p6, wt_dig p7, wt_dig p8, wt_dig p9, wt_up p10, wt_up p11, wt_up p12, wt_dig p13, wt_dig p14] <;> rfl
    have f1 : lin [b0, b1, b2, b3, b4, b5, b6, b7, b8, b9, b10, b11, b12, b13, b14] = lstp (lin [b0, b1, b2, b3]) b4 * W [b5, b6, b7, b8, b9, b10, b11, b12, b13, b14] + lin [b5, b6, b7, b8, b9, b10, b11, b12, b13, b14] := lin_mid [b0, b1, b2, b3] [b5, b6, b7, b8, b9, b10, b11, b12, b13, b14] b4
    have f2 : lin [b0, b1, b2, b3, d4, b5, b6, b7, b8, b9, b10, b11, b12, b13, b14] = lstp (lin [b0, b1, b2, b3]) d4 * W [b5, b6, b7, b8, b9, b10, b11, b12, b13, b14] + lin [b5, b6, b7, b8, b9, b10, b11, b12, b13, b14] := lin_mid [b0, b1, b2, b3] [b5, b6, b7, b8, b9, b10, b11, b12, b13, b14] d4
    rw [f1, lstp_dig p4, w] at hm
    rw [f2, lstp_dig q4, w] at km
    rw [UInt8.toNat_inj.1 (chg_4 _ _ _ _ p4 q4 hm km)]
  · -- 5
    have e0 : b0 = d0 := by have := h 0 (by omega); simpa using this
    subst e0
    have e1 : b1 = d1 := by have := h 1 (by omega); simpa using this
    subst e1
    have e2 : b2 = d2 := by have := h 2 (by omega); simpa using this
    subst e2
    have e3 : b3 = d3 := by have := h 3 (by omega); simpa using this
    subst e3
    have e4 : b4 = d4 := by have := h 4 (by omega); simpa using this
    subst e4
    have e6 : b6 = d6 := by have := h 6 (by omega); simpa using this
    subst e6
    have e7 : b7 = d7 := by have := h 7 (by omega); simpa using this
    subst e7
    have e8 : b8 = d8 := by have := h 8 (by omega); simpa using this
    subst e8
    have e9 : b9 = d9 := by have := h 9 (by omega); simpa using this
    subst e9
    have e10 : b10 = d10 := by have := h 10 (by omega); simpa using this
    subst e10
    have e11 : b11 = d11 := by have := h 11 (by omega); simpa using this
    subst e11
    have e12 : b12 = d12 := by have := h 12 (by omega); simpa using this
    subst e12
    have e13 : b13 = d13 := by have := h 13 (by omega); simpa using this
    subst e13
    have e14 : b14 = d14 := by have := h 14 (by omega); simpa using this
    subst e14
    have w : W [b6, b7, b8, b9, b10, b11, b12, b13, b14] = 1000000000000 := by simp only [W, wt_dig p6, wt_dig p7, wt_dig p8, wt_dig p9, wt_up p10, wt_up p11, wt_up p12, wt_dig p13, wt_dig p14] <;> rfl
    have f1 : lin [b0, b1, b2, b3, b4, b5, b6, b7, b8, b9, b10, b11, b12, b13, b14] = lstp (lin [b0, b1, b2, b3, b4]) b5 * W [b6, b7, b8, b9, b10, b11, b12, b13, b14] + lin [b6, b7, b8, b9, b10, b11, b12, b13, b14] := lin_mid [b0, b1, b2, b3, b4] [b6, b7, b8, b9, b10, b11, b12, b13, b14] b5
    have f2 : lin [b0, b1, b2, b3, b4, d5, b6, b7, b8, b9, b10, b11, b12, b13, b14] = lstp (lin [b0, b1, b2, b3, b4]) d5 * W [b6, b7, b8, b9, b10, b11, b12, b13, b14] + lin [b6, b7, b8, b9, b10, b11, b12, b13, b14] := lin_mid [b0, b1, b2, b3, b4] [b6, b7, b8, b9, b10, b11, b12, b13, b14] d5
    rw [f1, lstp_dig p5, w] at hm
    rw [f2, lstp_dig q5, w] at km
    rw [UInt8.toNat_inj.1 (chg_5 _ _ _ _ p5 q5 hm km)]
  · -- 6
    have e0 : b0 = d0 := by have := h 0 (by omega); simpa using this
    subst e0
    have e1 : b1 = d1 := by have := h 1 (by omega); simpa using this
    subst e1
    have e2 : b2 = d2 := by have := h 2 (by omega); simpa using this
    subst e2
    have e3 : b3 = d3 := by have := h 3 (by omega); simpa using this
    subst e3
    have e4 : b4 = d4 := by have := h 4 (by omega); simpa using this
    subst e4
    have e5 : b5 = d5 := by have := h 5 (by omega); simpa using this
    subst e5
    have e7 : b7 = d7 := by have := h 7 (by omega); simpa using this
    subst e7
    have e8 : b8 = d8 := by have := h 8 (by omega); simpa using this
    subst e8
    have e9 : b9 = d9 := by have := h 9 (by omega); simpa using this
    subst e9
    have e10 : b10 = d10 := by have := h 10 (by omega); simpa using this
    subst e10
    have e11 : b11 = d11 := by have := h 11 (by omega); simpa using this
    subst e11
    have e12 : b12 = d12 := by have := h 12 (by omega); simpa using this
    subst e12
    have e13 : b13 = d13 := by have := h 13 (by omega); simpa using this
    subst e13
    have e14 : b14 = d14 := by have := h 14 (by omega); simpa using this
    subst e14
    have w : W [b7, b8, b9, b10, b11, b12, b13, b14] = 100000000000 := by simp only [W, wt_dig p7, wt_dig p8, wt_dig p9, wt_up p10, wt_up p11, wt_up p12, wt_dig p13, wt_dig p14] <;> rfl
    have f1 : lin [b0, b1, b2, b3, b4, b5, b6, b7, b8, b9, b10, b11, b12, b13, b14] = lstp (lin [b0, b1, b2, b3, b4, b5]) b6 * W [b7, b8, b9, b10, b11, b12, b13, b14] + lin [b7, b8, b9, b10, b11, b12, b13, b14] := lin_mid [b0, b1, b2, b3, b4, b5] [b7, b8, b9, b10, b11, b12, b13, b14] b6
    have f2 : lin [b0, b1, b2, b3, b4, b5, d6, b7, b8, b9, b10, b11, b12, b13, b14] = lstp (lin [b0, b1, b2, b3, b4, b5]) d6 * W [b7, b8, b9, b10, b11, b12, b13, b14] + lin [b7, b8, b9, b10, b11, b12, b13, b14] := lin_mid [b0, b1, b2, b3, b4, b5] [b7, b8, b9, b10, b11, b12, b13, b14] d6
    rw [f1, lstp_dig p6, w] at hm
    rw [f2, lstp_dig q6, w] at km
    rw [UInt8.toNat_inj.1 (chg_6 _ _ _ _ p6 q6 hm km)]
  · -- 7
    have e0 : b0 = d0 := by have := h 0 (by omega); simpa using this
    subst e0
    have e1 : b1 = d1 := by have := h 1 (by omega); simpa using this
    subst e1
    have e2 : b2 = d2 := by have := h 2 (by omega); simpa using this
    subst e2
    have e3 : b3 = d3 := by have := h 3 (by omega); simpa using this
    subst e3
    have e4 : b4 = d4 := by have := h 4 (by omega); simpa using this
    subst e4
    have e5 : b5 = d5 := by have := h 5 (by omega); simpa using this
    subst e5
    have e6 : b6 = d6 := by have := h 6 (by omega); simpa using this
    subst e6
    have e8 : b8 = d8 := by have := h 8 (by omega); simpa using this
    subst e8
    have e9 : b9 = d9 := by have := h 9 (by omega); simpa using this
    subst e9
    have e10 : b10 = d10 := by have := h 10 (by omega); simpa using this
    subst e10
    have e11 : b11 = d11 := by have := h 11 (by omega); simpa using this
    subst e11
    have e12 : b12 = d12 := by have := h 12 (by omega); simpa using this
    subst e12
    have e13 : b13 = d13 := by have := h 13 (by omega); simpa using this
    subst e13
    have e14 : b14 = d14 := by have := h 14 (by omega); simpa using this
    subst e14
    have w : W [b8, b9, b10, b11, b12, b13, b14] = 10000000000 := by simp only [W, wt_dig p8, wt_dig p9, wt_up p10, wt_up p11, wt_up p12, wt_dig p13, wt_dig p14] <;> rfl
    have f1 : lin [b0, b1, b2, b3, b4, b5, b6, b7, b8, b9, b10, b11, b12, b13, b14] = lstp (lin [b0, b1, b2, b3, b4, b5, b6]) b7 * W [b8, b9, b10, b11, b12, b13, b14] + lin [b8, b9, b10, b11, b12, b13, b14] := lin_mid [b0, b1, b2, b3, b4, b5, b6] [b8, b9, b10, b11, b12, b13, b14] b7
    have f2 : lin [b0, b1, b2, b3, b4, b5, b6, d7, b8, b9, b10, b11, b12, b13, b14] = lstp (lin [b0, b1, b2, b3, b4, b5, b6]) d7 * W [b8, b9, b10, b11, b12, b13, b14] + lin [b8, b9, b10, b11, b12, b13, b14] := lin_mid [b0, b1, b2, b3, b4, b5, b6] [b8, b9, b10, b11, b12, b13, b14] d7
    rw [f1, lstp_dig p7, w] at hm
    rw [f2, lstp_dig q7, w] at km
    rw [UInt8.toNat_inj.1 (chg_7 _ _ _ _ p7 q7 hm km)]
  · -- 8
    have e0 : b0 = d0 := by have := h 0 (by omega); simpa using this
    subst e0
    have e1 : b1 = d1 := by have := h 1 (by omega); simpa using this
    subst e1
    have e2 : b2 = d2 := by have := h 2 (by omega); simpa using this
    subst e2
    have e3 : b3 = d3 := by have := h 3 (by omega); simpa using this
    subst e3
    have e4 : b4 = d4 := by have := h 4 (by omega); simpa using this
    subst e4
    have e5 : b5 = d5 := by have := h 5 (by omega); simpa using this
    subst e5
    have e6 : b6 = d6 := by have := h 6 (by omega); simpa using this
    subst e6
    have e7 : b7 = d7 := by have := h 7 (by omega); simpa using this
    subst e7
    have e9 : b9 = d9 := by have := h 9 (by omega); simpa using this
    subst e9
    have e10 : b10 = d10 := by have := h 10 (by omega); simpa using this
    subst e10
    have e11 : b11 = d11 := by have := h 11 (by omega); simpa using this
    subst e11
    have e12 : b12 = d12 := by have := h 12 (by omega); simpa using this
    subst e12
    have e13 : b13 = d13 := by have := h 13 (by omega); simpa using this
    subst e13
    have e14 : b14 = d14 := by have := h 14 (by omega); simpa using this
    subst e14
    have w : W [b9, b10, b11, b12, b13, b14] = 1000000000 := by simp only [W, wt_dig p9, wt_up p10, wt_up p11, wt_up p12, wt_dig p13, wt_dig p14] <;> rfl
    have f1 : lin [b0, b1, b2, b3, b4, b5, b6, b7, b8, b9, b10, b11, b12, b13, b14] = lstp (lin [b0, b1, b2, b3, b4, b5, b6, b7]) b8 * W [b9, b10, b11, b12, b13, b14] + lin [b9, b10, b11, b12, b13, b14] := lin_mid [b0, b1, b2, b3, b4, b5, b6, b7] [b9, b10, b11, b12, b13, b14] b8
    have f2 : lin [b0, b1, b2, b3, b4, b5, b6, b7, d8, b9, b10, b11, b12, b13, b14] = lstp (lin [b0, b1, b2, b3, b4, b5, b6, b7]) d8 * W [b9, b10, b11, b12, b13, b14] + lin [b9, b10, b11, b12, b13, b14] := lin_mid [b0, b1, b2, b3, b4, b5, b6, b7] [b9, b10, b11, b12, b13, b14] d8
    rw [f1, lstp_dig p8, w] at hm
    rw [f2, lstp_dig q8, w] at km
    rw [UInt8.toNat_inj.1 (chg_8 _ _ _ _ p8 q8 hm km)]
  · -- 9
    have e0 : b0 = d0 := by have := h 0 (by omega); simpa using this
    subst e0
    have e1 : b1 = d1 := by have := h 1 (by omega); simpa using this
    subst e1
    have e2 : b2 = d2 := by have := h 2 (by omega); simpa using this
    subst e2
    have e3 : b3 = d3 := by have := h 3 (by omega); simpa using this
    subst e3
    have e4 : b4 = d4 := by have := h 4 (by omega); simpa using this
    subst e4
    have e5 : b5 = d5 := by have := h 5 (by omega); simpa using this
    subst e5
    have e6 : b6 = d6 := by have := h 6 (by omega); simpa using this
    subst e6
    have e7 : b7 = d7 := by have := h 7 (by omega); simpa using this
    subst e7
    have e8 : b8 = d8 := by have := h 8 (by omega); simpa using this
    subst e8
    have e10 : b10 = d10 := by have := h 10 (by omega); simpa using this
    subst e10
    have e11 : b11 = d11 := by have := h 11 (by omega); simpa using this
    subst e11
    have e12 : b12 = d12 := by have := h 12 (by omega); simpa using this
    subst e12
    have e13 : b13 = d13 := by have := h 13 (by omega); simpa using this
    subst e13
    have e14 : b14 = d14 := by have := h 14 (by omega); simpa using this
    subst e14
    have w : W [b10, b11, b12, b13, b14] = 100000000 := by simp only [W, wt_up p10, wt_up p11, wt_up p12, wt_dig p13, wt_dig p14] <;> rfl
    have f1 : lin [b0, b1, b2, b3, b4, b5, b6, b7, b8, b9, b10, b11, b12, b13, b14] = lstp (lin [b0, b1, b2, b3, b4, b5, b6, b7, b8]) b9 * W [b10, b11, b12, b13, b14] + lin [b10, b11, b12, b13, b14] := lin_mid [b0, b1, b2, b3, b4, b5, b6, b7, b8] [b10, b11, b12, b13, b14] b9
    have f2 : lin [b0, b1, b2, b3, b4, b5, b6, b7, b8, d9, b10, b11, b12, b13, b14] = lstp (lin [b0, b1, b2, b3, b4, b5, b6, b7, b8]) d9 * W [b10, b11, b12, b13, b14] + lin [b10, b11, b12, b13, b14] := lin_mid [b0, b1, b2, b3, b4, b5, b6, b7, b8] [b10, b11, b12, b13, b14] d9
    rw [f1, lstp_dig p9, w] at hm
    rw [f2, lstp_dig q9, w] at km
    rw [UInt8.toNat_inj.1 (chg_9 _ _ _ _ p9 q9 hm km)]
  · -- 10
    have e0 : b0 = d0 := by have := h 0 (by omega); simpa using this
    subst e0
    have e1 : b1 = d1 := by have := h 1 (by omega); simpa using this
    subst e1
    have e2 : b2 = d2 := by have := h 2 (by omega); simpa using this
    subst e2
    have e3 : b3 = d3 := by have := h 3 (by omega); simpa using this
    subst e3
    have e4 : b4 = d4 := by have := h 4 (by omega); simpa using this
    subst e4
    have e5 : b5 = d5 := by have := h 5 (by omega); simpa using this
    subst e5
    have e6 : b6 = d6 := by have := h 6 (by omega); simpa using this
    subst e6
    have e7 : b7 = d7 := by have := h 7 (by omega); simpa using this
    subst e7
    have e8 : b8 = d8 := by have := h 8 (by omega); simpa using this
    subst e8
    have e9 : b9 = d9 := by have := h 9 (by omega); simpa using this
    subst e9
    have e11 : b11 = d11 := by have := h 11 (by omega); simpa using this
    subst e11
    have e12 : b12 = d12 := by have := h 12 (by omega); simpa using this
    subst e12
    have e13 : b13 = d13 := by have := h 13 (by omega); simpa using this
    subst e13
    have e14 : b14 = d14 := by have := h 14 (by omega); simpa using this
    subst e14
    have w : W [b11, b12, b13, b14] = 1000000 := by simp only [W, wt_up p11, wt_up p12, wt_dig p13, wt_dig p14] <;> rfl
    have f1 : lin [b0, b1, b2, b3, b4, b5, b6, b7, b8, b9, b10, b11, b12, b13, b14] = lstp (lin [b0, b1, b2, b3, b4, b5, b6, b7, b8, b9]) b10 * W [b11, b12, b13, b14] + lin [b11, b12, b13, b14] := lin_mid [b0, b1, b2, b3, b4, b5, b6, b7, b8, b9] [b11, b12, b13, b14] b10
    have f2 : lin [b0, b1, b2, b3, b4, b5, b6, b7, b8, b9, d10, b11, b12, b13, b14] = lstp (lin [b0, b1, b2, b3, b4, b5, b6, b7, b8, b9]) d10 * W [b11, b12, b13, b14] + lin [b11, b12, b13, b14] := lin_mid [b0, b1, b2, b3, b4, b5, b6, b7, b8, b9] [b11, b12, b13, b14] d10
    rw [f1, lstp_up p10, w] at hm
    rw [f2, lstp_up q10, w] at km
    rw [UInt8.toNat_inj.1 (chg_10 _ _ _ _ p10 q10 hm km)]
  · -- 11
    have e0 : b0 = d0 := by have := h 0 (by omega); simpa using this
    subst e0
    have e1 : b1 = d1 := by have := h 1 (by omega); simpa using this
    subst e1
    have e2 : b2 = d2 := by have := h 2 (by omega); simpa using this
    subst e2
    have e3 : b3 = d3 := by have := h 3 (by omega); simpa using this
    subst e3
    have e4 : b4 = d4 := by have := h 4 (by omega); simpa using this
    subst e4
    have e5 : b5 = d5 := by have := h 5 (by omega); simpa using this
    subst e5
    have e6 : b6 = d6 := by have := h 6 (by omega); simpa using this
    subst e6
    have e7 : b7 = d7 := by have := h 7 (by omega); simpa using this
    subst e7
    have e8 : b8 = d8 := by have := h 8 (by omega); simpa using this
    subst e8
    have e9 : b9 = d9 := by have := h 9 (by omega); simpa using this
    subst e9
    have e10 : b10 = d10 := by have := h 10 (by omega); simpa using this
    subst e10
    have e12 : b12 = d12 := by have := h 12 (by omega); simpa using this
    subst e12
    have e13 : b13 = d13 := by have := h 13 (by omega); simpa using this
    subst e13
    have e14 : b14 = d14 := by have := h 14 (by omega); simpa using this
    subst e14
    have w : W [b12, b13, b14] = 10000 := by simp only [W, wt_up p12, wt_dig p13, wt_dig p14] <;> rfl
    have f1 : lin [b0, b1, b2, b3, b4, b5, b6, b7, b8, b9, b10, b11, b12, b13, b14] = lstp (lin [b0, b1, b2, b3, b4, b5, b6, b7, b8, b9, b10]) b11 * W [b12, b13, b14] + lin [b12, b13, b14] := lin_mid [b0, b1, b2, b3, b4, b5, b6, b7, b8, b9, b10] [b12, b13, b14] b11
    have f2 : lin [b0, b1, b2, b3, b4, b5, b6, b7, b8, b9, b10, d11, b12, b13, b14] = lstp (lin [b0, b1, b2, b3, b4, b5, b6, b7, b8, b9, b10]) d11 * W [b12, b13, b14] + lin [b12, b13, b14] := lin_mid [b0, b1, b2, b3, b4, b5, b6, b7, b8, b9, b10] [b12, b13, b14] d11
    rw [f1, lstp_up p11, w] at hm
    rw [f2, lstp_up q11, w] at km
    rw [UInt8.toNat_inj.1 (chg_11 _ _ _ _ p11 q11 hm km)]
  · -- 12
    have e0 : b0 = d0 := by have := h 0 (by omega); simpa using this
    subst e0
    have e1 : b1 = d1 := by have := h 1 (by omega); simpa using this
    subst e1
    have e2 : b2 = d2 := by have := h 2 (by omega); simpa using this
    subst e2
    have e3 : b3 = d3 := by have := h 3 (by omega); simpa using this
    subst e3
    have e4 : b4 = d4 := by have := h 4 (by omega); simpa using this
    subst e4
    have e5 : b5 = d5 := by have := h 5 (by omega); simpa using this
    subst e5
    have e6 : b6 = d6 := by have := h 6 (by omega); simpa using this
    subst e6
    have e7 : b7 = d7 := by have := h 7 (by omega); simpa using this
    subst e7
    have e8 : b8 = d8 := by have := h 8 (by omega); simpa using this
    subst e8
    have e9 : b9 = d9 := by have := h 9 (by omega); simpa using this
    subst e9
    have e10 : b10 = d10 := by have := h 10 (by omega); simpa using this
    subst e10
    have e11 : b11 = d11 := by have := h 11 (by omega); simpa using this
    subst e11
    have e13 : b13 = d13 := by have := h 13 (by omega); simpa using this
    subst e13
    have e14 : b14 = d14 := by have := h 14 (by omega); simpa using this
    subst e14
    have w : W [b13, b14] = 100 := by simp only [W, wt_dig p13, wt_dig p14] <;> rfl
    have f1 : lin [b0, b1, b2, b3, b4, b5, b6, b7, b8, b9, b10, b11, b12, b13, b14] = lstp (lin [b0, b1, b2, b3, b4, b5, b6, b7, b8, b9, b10, b11]) b12 * W [b13, b14] + lin [b13, b14] := lin_mid [b0, b1, b2, b3, b4, b5, b6, b7, b8, b9, b10, b11] [b13, b14] b12
    have f2 : lin [b0, b1, b2, b3, b4, b5, b6, b7, b8, b9, b10, b11, d12, b13, b14] = lstp (lin [b0, b1, b2, b3, b4, b5, b6, b7, b8, b9, b10, b11]) d12 * W [b13, b14] + lin [b13, b14] := lin_mid [b0, b1, b2, b3, b4, b5, b6, b7, b8, b9, b10, b11] [b13, b14] d12
    rw [f1, lstp_up p12, w] at hm
    rw [f2, lstp_up q12, w] at km
    rw [UInt8.toNat_inj.1 (chg_12 _ _ _ _ p12 q12 hm km)]
  · -- 13
    have e0 : b0 = d0 := by have := h 0 (by omega); simpa using this
    subst e0
    have e1 : b1 = d1 := by have := h 1 (by omega); simpa using this
    subst e1
    have e2 : b2 = d2 := by have := h 2 (by omega); simpa using this
    subst e2
    have e3 : b3 = d3 := by have := h 3 (by omega); simpa using this
    subst e3
    have e4 : b4 = d4 := by have := h 4 (by omega); simpa using this
    subst e4
    have e5 : b5 = d5 := by have := h 5 (by omega); simpa using this
    subst e5
    have e6 : b6 = d6 := by have := h 6 (by omega); simpa using this
    subst e6
    have e7 : b7 = d7 := by have := h 7 (by omega); simpa using this
    subst e7
    have e8 : b8 = d8 := by have := h 8 (by omega); simpa using this
    subst e8
    have e9 : b9 = d9 := by have := h 9 (by omega); simpa using this
    subst e9
    have e10 : b10 = d10 := by have := h 10 (by omega); simpa using this
    subst e10
    have e11 : b11 = d11 := by have := h 11 (by omega); simpa using this
    subst e11
    have e12 : b12 = d12 := by have := h 12 (by omega); simpa using this
    subst e12
    have e14 : b14 = d14 := by have := h 14 (by omega); simpa using this
    subst e14
    have w : W [b14] = 10 := by simp only [W, wt_dig p14] <;> rfl
    have f1 : lin [b0, b1, b2, b3, b4, b5, b6, b7, b8, b9, b10, b11, b12, b13, b14] = lstp (lin [b0, b1, b2, b3, b4, b5, b6, b7, b8, b9, b10, b11, b12]) b13 * W [b14] + lin [b14] := lin_mid [b0, b1, b2, b3, b4, b5, b6, b7, b8, b9, b10, b11, b12] [b14] b13
    have f2 : lin [b0, b1, b2, b3, b4, b5, b6, b7, b8, b9, b10, b11, b12, d13, b14] = lstp (lin [b0, b1, b2, b3, b4, b5, b6, b7, b8, b9, b10, b11, b12]) d13 * W [b14] + lin [b14] := lin_mid [b0, b1, b2, b3, b4, b5, b6, b7, b8, b9, b10, b11, b12] [b14] d13
    rw [f1, lstp_dig p13, w] at hm
    rw [f2, lstp_dig q13, w] at km
    rw [UInt8.toNat_inj.1 (chg_13 _ _ _ _ p13 q13 hm km)]
  · -- 14
    have e0 : b0 = d0 := by have := h 0 (by omega); simpa using this
    subst e0
    have e1 : b1 = d1 := by have := h 1 (by omega); simpa using this
    subst e1
    have e2 : b2 = d2 := by have := h 2 (by omega); simpa using this
    subst e2
    have e3 : b3 = d3 := by have := h 3 (by omega); simpa using this
    subst e3
    have e4 : b4 = d4 := by have := h 4 (by omega); simpa using this
    subst e4
    have e5 : b5 = d5 := by have := h 5 (by omega); simpa using this
    subst e5
    have e6 : b6 = d6 := by have := h 6 (by omega); simpa using this
    subst e6
    have e7 : b7 = d7 := by have := h 7 (by omega); simpa using this
    subst e7
    have e8 : b8 = d8 := by have := h 8 (by omega); simpa using this
    subst e8
    have e9 : b9 = d9 := by have := h 9 (by omega); simpa using this
    subst e9
    have e10 : b10 = d10 := by have := h 10 (by omega); simpa using this
    subst e10
    have e11 : b11 = d11 := by have := h 11 (by omega); simpa using this
    subst e11
    have e12 : b12 = d12 := by have := h 12 (by omega); simpa using this
    subst e12
    have e13 : b13 = d13 := by have := h 13 (by omega); simpa using this
    subst e13
    have w : W [] = 1 := by simp only [W] <;> rfl
    have f1 : lin [b0, b1, b2, b3, b4, b5, b6, b7, b8, b9, b10, b11, b12, b13, b14] = lstp (lin [b0, b1, b2, b3, b4, b5, b6, b7, b8, b9, b10, b11, b12, b13]) b14 * W [] + lin [] := lin_mid [b0, b1, b2, b3, b4, b5, b6, b7, b8, b9, b10, b11, b12, b13] [] b14
    have f2 : lin [b0, b1, b2, b3, b4, b5, b6, b7, b8, b9, b10, b11, b12, b13, d14] = lstp (lin [b0, b1, b2, b3, b4, b5, b6, b7, b8, b9, b10, b11, b12, b13]) d14 * W [] + lin [] := lin_mid [b0, b1, b2, b3, b4, b5, b6, b7, b8, b9, b10, b11, b12, b13] [] d14
    rw [f1, lstp_dig p14, w] at hm
    rw [f2, lstp_dig q14, w] at km
    rw [UInt8.toNat_inj.1 (chg_14 _ _ _ _ p14 q14 hm km)]
/-- Two neighbours exchanged. -/
def swapL (s : List UInt8) (i : Nat) : List UInt8 := s.take i ++ (s.drop (i + 1)).take 1 ++ (s.drop i).take 1 ++ s.drop (i + 2)
set_option maxHeartbeats 8000000 in
theorem one_swap {s : List UInt8} (hs : Lab15 s) {i : Nat} (hi : i < 14) (ht : Lab15 (swapL s i)) : swapL s i = s := by
  obtain ⟨b0, b1, b2, b3, b4, b5, b6, b7, b8, b9, b10, b11, b12, b13, b14, rfl, p0, p1, p2, p3, p4, p5, p6, p7, p8, p9, p10, p11, p12, p13, p14, hm⟩ := hs
  obtain ⟨d0, d1, d2, d3, d4, d5, d6, d7, d8, d9, d10, d11, d12, d13, d14, eq, q0, q1, q2, q3, q4, q5, q6, q7, q8, q9, q10, q11, q12, q13, q14, km⟩ := ht
  rcases (show i = 0 ∨ i = 1 ∨ i = 2 ∨ i = 3 ∨ i = 4 ∨ i = 5 ∨ i = 6 ∨ i = 7 ∨ i = 8 ∨ i = 9 ∨ i = 10 ∨ i = 11 ∨ i = 12 ∨ i = 13 by omega) with rfl | rfl | rfl | rfl | rfl | rfl | rfl | rfl | rfl | rfl | rfl | rfl | rfl | rfl
  · have es : swapL [b0, b1, b2, b3, b4, b5, b6, b7, b8, b9, b10, b11, b12, b13, b14] 0 = [b1, b0, b2, b3, b4, b5, b6, b7, b8, b9, b10, b11, b12, b13, b14] := rfl
    rw [es] at eq km ⊢
    simp only [List.cons.injEq, and_true] at eq
    obtain ⟨e0, e1, e2, e3, e4, e5, e6, e7, e8, e9, e10, e11, e12, e13, e14⟩ := eq
    rw [← e0] at q0
    rw [← e1] at q1
    have w : W [b2, b3, b4, b5, b6, b7, b8, b9, b10, b11, b12, b13, b14] = 10000000000000000 := by simp only [W, wt_dig p2, wt_dig p3, wt_dig p4, wt_dig p5, wt_dig p6, wt_dig p7, wt_dig p8, wt_dig p9, wt_up p10, wt_up p11, wt_up p12, wt_dig p13, wt_dig p14] <;> rfl
    have f1 : lin [b0, b1, b2, b3, b4, b5, b6, b7, b8, b9, b10, b11, b12, b13, b14] = lstp (lstp (lin []) b0) b1 * W [b2, b3, b4, b5, b6, b7, b8, b9, b10, b11, b12, b13, b14] + lin [b2, b3, b4, b5, b6, b7, b8, b9, b10, b11, b12, b13, b14] := lin_mid2 [] [b2, b3, b4, b5, b6, b7, b8, b9, b10, b11, b12, b13, b14] b0 b1
    have f2 : lin [b1, b0, b2, b3, b4, b5, b6, b7, b8, b9, b10, b11, b12, b13, b14] = lstp (lstp (lin []) b1) b0 * W [b2, b3, b4, b5, b6, b7, b8, b9, b10, b11, b12, b13, b14] + lin [b2, b3, b4, b5, b6, b7, b8, b9, b10, b11, b12, b13, b14] := lin_mid2 [] [b2, b3, b4, b5, b6, b7, b8, b9, b10, b11, b12, b13, b14] b1 b0
    rw [f1, lstp_dig p1, lstp_dig p0, w] at hm
    rw [f2, lstp_dig p0, lstp_dig p1, w] at km
    rw [UInt8.toNat_inj.1 (swp_0 _ _ _ _ p0 p1 hm km)]
  · have es : swapL [b0, b1, b2, b3, b4, b5, b6, b7, b8, b9, b10, b11, b12, b13, b14] 1 = [b0, b2, b1, b3, b4, b5, b6, b7, b8, b9, b10, b11, b12, b13, b14] := rfl
    rw [es] at eq km ⊢
    simp only [List.cons.injEq, and_true] at eq
    obtain ⟨e0, e1, e2, e3, e4, e5, e6, e7, e8, e9, e10, e11, e12, e13, e14⟩ := eq
    rw [← e1] at q1
    rw [← e2] at q2
    have w : W [b3, b4, b5, b6, b7, b8, b9, b10, b11, b12, b13, b14] = 1000000000000000 := by simp only [W, wt_dig p3, wt_dig p4, wt_dig p5, wt_dig p6, wt_dig p7, wt_dig p8, wt_dig p9, wt_up p10, wt_up p11, wt_up p12, wt_dig p13, wt_dig p14] <;> rfl
    have f1 : lin [b0, b1, b2, b3, b4, b5, b6, b7, b8, b9, b10, b11, b12, b13, b14] = lstp (lstp (lin [b0]) b1) b2 * W [b3, b4, b5, b6, b7, b8, b9, b10, b11, b12, b13, b14] + lin [b3, b4, b5, b6, b7, b8, b9, b10, b11, b12, b13, b14] := lin_mid2 [b0] [b3, b4, b5, b6, b7, b8, b9, b10, b11, b12, b13, b14] b1 b2
    have f2 : lin [b0, b2, b1, b3, b4, b5, b6, b7, b8, b9, b10, b11, b12, b13, b14] = lstp (lstp (lin [b0]) b2) b1 * W [b3, b4, b5, b6, b7, b8, b9, b10, b11, b12, b13, b14] + lin [b3, b4, b5, b6, b7, b8, b9, b10, b11, b12, b13, b14] := lin_mid2 [b0] [b3, b4, b5, b6, b7, b8, b9, b10, b11, b12, b13, b14] b2 b1
    rw [f1, lstp_dig p2, lstp_dig p1, w] at hm
    rw [f2, lstp_dig p1, lstp_dig p2, w] at km
    rw [UInt8.toNat_inj.1 (swp_1 _ _ _ _ p1 p2 hm km)]
  · have es : swapL [b0, b1, b2, b3, b4, b5, b6, b7, b8, b9, b10, b11, b12, b13, b14] 2 = [b0, b1, b3, b2, b4, b5, b6, b7, b8, b9, b10, b11, b12, b13, b14] := rfl
    rw [es] at eq km ⊢
    simp only [List.cons.injEq, and_true] at eq
    obtain ⟨e0, e1, e2, e3, e4, e5, e6, e7, e8, e9, e10, e11, e12, e13, e14⟩ := eq
    rw [← e2] at q2
    rw [← e3] at q3
    have w : W [b4, b5, b6, b7, b8, b9, b10, b11, b12, b13, b14] = 100000000000000 := by simp only [W, wt_dig p4, wt_dig p5, wt_dig p6, wt_dig p7, wt_dig p8, wt_dig p9, wt_up p10, wt_up p11, wt_up p12, wt_dig p13, wt_dig p14] <;> rfl
    have f1 : lin [b0, b1, b2, b3, b4, b5, b6, b7, b8, b9, b10, b11, b12, b13, b14] = lstp (lstp (lin [b0, b1]) b2) b3 * W [b4, b5, b6, b7, b8, b9, b10, b11, b12, b13, b14] + lin [b4, b5, b6, b7, b8, b9, b10, b11, b12, b13, b14] := lin_mid2 [b0, b1] [b4, b5, b6, b7, b8, b9, b10, b11, b12, b13, b14] b2 b3
    have f2 : lin [b0, b1, b3, b2, b4, b5, b6, b7, b8, b9, b10, b11, b12, b13, b14] = lstp (lstp (lin [b0, b1]) b3) b2 * W [b4, b5, b6, b7, b8, b9, b10, b11, b12, b13, b14] + lin [b4, b5, b6, b7, b8, b9, b10, b11, b12, b13, b14] := lin_mid2 [b0, b1] [b4, b5, b6, b7, b8, b9, b10, b11, b12, b13, b14] b3 b2
    rw [f1, lstp_dig p3, lstp_dig p2, w] at hm
    rw [f2, lstp_dig p2, lstp_dig p3, w] at km
    rw [UInt8.toNat_inj.1 (swp_2 _ _ _ _ p2 p3 hm km)]
  · have es : swapL [b0, b1, b2, b3, b4, b5, b6, b7, b8, b9, b10, b11, b12, b13, b14] 3 = [b0, b1, b2, b4, b3, b5, b6, b7, b8, b9, b10, b11, b12, b13, b14] := rfl
    rw [es] at eq km ⊢
    simp only [List.cons.injEq, and_true] at eq
    obtain ⟨e0, e1, e2, e3, e4, e5, e6, e7, e8, e9, e10, e11, e12, e13, e14⟩ := eq
    rw [← e3] at q3
    rw [← e4] at q4
    have w : W [b5, b6, b7, b8, b9, b10, b11, b12, b13, b14] = 10000000000000 := by simp only [W, wt_dig p5, wt_dig p6, wt_dig p7, wt_dig p8, wt_dig p9, wt_up p10, wt_up p11, wt_up p12, wt_dig p13, wt_dig p14] <;> rfl
    have f1 : lin [b0, b1, b2, b3, b4, b5, b6, b7, b8, b9, b10, b11, b12, b13, b14] = lstp (lstp (lin [b0, b1, b2]) b3) b4 * W [b5, b6, b7, b8, b9, b10, b11, b12, b13, b14] + lin [b5, b6, b7, b8, b9, b10, b11, b12, b13, b14] := lin_mid2 [b0, b1, b2] [b5, b6, b7, b8, b9, b10, b11, b12, b13, b14] b3 b4
    have f2 : lin [b0, b1, b2, b4, b3, b5, b6, b7, b8, b9, b10, b11, b12, b13, b14] = lstp (lstp (lin [b0, b1, b2]) b4) b3 * W [b5, b6, b7, b8, b9, b10, b11, b12, b13, b14] + lin [b5, b6, b7, b8, b9, b10, b11, b12, b13, b14] := lin_mid2 [b0, b1, b2] [b5, b6, b7, b8, b9, b10, b11, b12, b13, b14] b4 b3
    rw [f1, lstp_dig p4, lstp_dig p3, w] at hm
    rw [f2, lstp_dig p3, lstp_dig p4, w] at km
    rw [UInt8.toNat_inj.1 (swp_3 _ _ _ _ p3 p4 hm km)]
  · have es : swapL [b0, b1, b2, b3, b4, b5, b6, b7, b8, b9, b10, b11, b12, b13, b14] 4 = [b0, b1, b2, b3, b5, b4, b6, b7, b8, b9, b10, b11, b12, b13, b14] := rfl
    rw [es] at eq km ⊢
    simp only [List.cons.injEq, and_true] at eq
    obtain ⟨e0, e1, e2, e3, e4, e5, e6, e7, e8, e9, e10, e11, e12, e13, e14⟩ := eq
    rw [← e4] at q4
    rw [← e5] at q5
    have w : W [b6, b7, b8, b9, b10, b11, b12, b13, b14] = 1000000000000 := by simp only [W, wt_dig p6, wt_dig p7, wt_dig p8, wt_dig p9, wt_up p10, wt_up p11, wt_up p12, wt_dig p13, wt_dig p14] <;> rfl
    have f1 : lin [b0, b1, b2, b3, b4, b5, b6, b7, b8, b9, b10, b11, b12, b13, b14] = lstp (lstp (lin [b0, b1, b2, b3]) b4) b5 * W [b6, b7, b8, b9, b10, b11, b12, b13, b14] + lin [b6, b7, b8, b9, b10, b11, b12, b13, b14] := lin_mid2 [b0, b1, b2, b3] [b6, b7, b8, b9, b10, b11, b12, b13, b14] b4 b5
    have f2 : lin [b0, b1, b2, b3, b5, b4, b6, b7, b8, b9, b10, b11, b12, b13, b14] = lstp (lstp (lin [b0, b1, b2, b3]) b5) b4 * W [b6, b7, b8, b9, b10, b11, b12, b13, b14] + lin [b6, b7, b8, b9, b10, b11, b12, b13, b14] := lin_mid2 [b0, b1, b2, b3] [b6, b7, b8, b9, b10, b11, b12, b13, b14] b5 b4
    rw [f1, lstp_dig p5, lstp_dig p4, w] at hm
    rw [f2, lstp_dig p4, lstp_dig p5, w] at km
    rw [UInt8.toNat_inj.1 (swp_4 _ _ _ _ p4 p5 hm km)]
  · have es : swapL [b0, b1, b2, b3, b4, b5, b6, b7, b8, b9, b10, b11, b12, b13, b14] 5 = [b0, b1, b2, b3, b4, b6, b5, b7, b8, b9, b10, b11, b12, b13, b14] := rfl
    rw [es] at eq km ⊢
    simp only [List.cons.injEq, and_true] at eq
    obtain ⟨e0, e1, e2, e3, e4, e5, e6, e7, e8, e9, e10, e11, e12, e13, e14⟩ := eq
    rw [← e5] at q5
    rw [← e6] at q6
    have w : W [b7, b8, b9, b10, b11, b12, b13, b14] = 100000000000 := by simp only [W, wt_dig p7, wt_dig p8, wt_dig p9, wt_up p10, wt_up p11, wt_up p12, wt_dig p13, wt_dig p14] <;> rfl
    have f1 : lin [b0, b1, b2, b3, b4, b5, b6, b7, b8, b9, b10, b11, b12, b13, b14] = lstp (lstp (lin [b0, b1, b2, b3, b4]) b5) b6 * W [b7, b8, b9, b10, b11, b12, b13, b14] + lin [b7, b8, b9, b10, b11, b12, b13, b14] := lin_mid2 [b0, b1, b2, b3, b4] [b7, b8, b9, b10, b11, b12, b13, b14] b5 b6
    have f2 : lin [b0, b1, b2, b3, b4, b6, b5, b7, b8, b9, b10, b11, b12, b13, b14] = lstp (lstp (lin [b0, b1, b2, b3, b4]) b6) b5 * W [b7, b8, b9, b10, b11, b12, b13, b14] + lin [b7, b8, b9, b10, b11, b12, b13, b14] := lin_mid2 [b0, b1, b2, b3, b4] [b7, b8, b9, b10, b11, b12, b13, b14] b6 b5
    rw [f1, lstp_dig p6, lstp_dig p5, w] at hm
    rw [f2, lstp_dig p5, lstp_dig p6, w] at km
    rw [UInt8.toNat_inj.1 (swp_5 _ _ _ _ p5 p6 hm km)]
  · have es : swapL [b0, b1, b2, b3, b4, b5, b6, b7, b8, b9, b10, b11, b12, b13, b14] 6 = [b0, b1, b2, b3, b4, b5, b7, b6, b8, b9, b10, b11, b12, b13, b14] := rfl
    rw [es] at eq km ⊢
    simp only [List.cons.injEq, and_true] at eq
    obtain ⟨e0, e1, e2, e3, e4, e5, e6, e7, e8, e9, e10, e11, e12, e13, e14⟩ := eq
    rw [← e6] at q6
    rw [← e7] at q7
    have w : W [b8, b9, b10, b11, b12, b13, b14] = 10000000000 := by simp only [W, wt_dig p8, wt_dig p9, wt_up p10, wt_up p11, wt_up p12, wt_dig p13, wt_dig p14] <;> rfl
    have f1 : lin [b0, b1, b2, b3, b4, b5, b6, b7, b8, b9, b10, b11, b12, b13, b14] = lstp (lstp (lin [b0, b1, b2, b3, b4, b5]) b6) b7 * W [b8, b9, b10, b11, b12, b13, b14] + lin [b8, b9, b10, b11, b12, b13, b14] := lin_mid2 [b0, b1, b2, b3, b4, b5] [b8, b9, b10, b11, b12, b13, b14] b6 b7
    have f2 : lin [b0, b1, b2, b3, b4, b5, b7, b6, b8, b9, b10, b11, b12, b13, b14] = lstp (lstp (lin [b0, b1, b2, b3, b4, b5]) b7) b6 * W [b8, b9, b10, b11, b12, b13, b14] + lin [b8, b9, b10, b11, b12, b13, b14] := lin_mid2 [b0, b1, b2, b3, b4, b5] [b8, b9, b10, b11, b12, b13, b14] b7 b6
    rw [f1, lstp_dig p7, lstp_dig p6, w] at hm
    rw [f2, lstp_dig p6, lstp_dig p7, w] at km
    rw [UInt8.toNat_inj.1 (swp_6 _ _ _ _ p6 p7 hm km)]
  · have es : swapL [b0, b1, b2, b3, b4, b5, b6, b7, b8, b9, b10, b11, b12, b13, b14] 7 = [b0, b1, b2, b3, b4, b5, b6, b8, b7, b9, b10, b11, b12, b13, b14] := rfl
    rw [es] at eq km ⊢
    simp only [List.cons.injEq, and_true] at eq
    obtain ⟨e0, e1, e2, e3, e4, e5, e6, e7, e8, e9, e10, e11, e12, e13, e14⟩ := eq
    rw [← e7] at q7
    rw [← e8] at q8
    have w : W [b9, b10, b11, b12, b13, b14] = 1000000000 := by simp only [W, wt_dig p9, wt_up p10, wt_up p11, wt_up p12, wt_dig p13, wt_dig p14] <;> rfl
    have f1 : lin [b0, b1, b2, b3, b4, b5, b6, b7, b8, b9, b10, b11, b12, b13, b14] = lstp (lstp (lin [b0, b1, b2, b3, b4, b5, b6]) b7) b8 * W [b9, b10, b11, b12, b13, b14] + lin [b9, b10, b11, b12, b13, b14] := lin_mid2 [b0, b1, b2, b3, b4, b5, b6] [b9, b10, b11, b12, b13, b14] b7 b8
    have f2 : lin [b0, b1, b2, b3, b4, b5, b6, b8, b7, b9, b10, b11, b12, b13, b14] = lstp (lstp (lin [b0, b1, b2, b3, b4, b5, b6]) b8) b7 * W [b9, b10, b11, b12, b13, b14] + lin [b9, b10, b11, b12, b13, b14] := lin_mid2 [b0, b1, b2, b3, b4, b5, b6] [b9, b10, b11, b12, b13, b14] b8 b7
    rw [f1, lstp_dig p8, lstp_dig p7, w] at hm
    rw [f2, lstp_dig p7, lstp_dig p8, w] at km
    rw [UInt8.toNat_inj.1 (swp_7 _ _ _ _ p7 p8 hm km)]
  · have es : swapL [b0, b1, b2, b3, b4, b5, b6, b7, b8, b9, b10, b11, b12, b13, b14] 8 = [b0, b1, b2, b3, b4, b5, b6, b7, b9, b8, b10, b11, b12, b13, b14] := rfl
    rw [es] at eq km ⊢
    simp only [List.cons.injEq, and_true] at eq
    obtain ⟨e0, e1, e2, e3, e4, e5, e6, e7, e8, e9, e10, e11, e12, e13, e14⟩ := eq
    rw [← e8] at q8
    rw [← e9] at q9
    have w : W [b10, b11, b12, b13, b14] = 100000000 := by simp only [W, wt_up p10, wt_up p11, wt_up p12, wt_dig p13, wt_dig p14] <;> rfl
    have f1 : lin [b0, b1, b2, b3, b4, b5, b6, b7, b8, b9, b10, b11, b12, b13, b14] = lstp (lstp (lin [b0, b1, b2, b3, b4, b5, b6, b7]) b8) b9 * W [b10, b11, b12, b13, b14] + lin [b10, b11, b12, b13, b14] := lin_mid2 [b0, b1, b2, b3, b4, b5, b6, b7] [b10, b11, b12, b13, b14] b8 b9
    have f2 : lin [b0, b1, b2, b3, b4, b5, b6, b7, b9, b8, b10, b11, b12, b13, b14] = lstp (lstp (lin [b0, b1, b2, b3, b4, b5, b6, b7]) b9) b8 * W [b10, b11, b12, b13, b14] + lin [b10, b11, b12, b13, b14] := lin_mid2 [b0, b1, b2, b3, b4, b5, b6, b7] [b10, b11, b12, b13, b14] b9 b8
    rw [f1, lstp_dig p9, lstp_dig p8, w] at hm
    rw [f2, lstp_dig p8, lstp_dig p9, w] at km
    rw [UInt8.toNat_inj.1 (swp_8 _ _ _ _ p8 p9 hm km)]
  · have es : swapL [b0, b1, b2, b3, b4, b5, b6, b7, b8, b9, b10, b11, b12, b13, b14] 9 = [b0, b1, b2, b3, b4, b5, b6, b7, b8, b10, b9, b11, b12, b13, b14] := rfl
    rw [es] at eq km ⊢
    simp only [List.cons.injEq, and_true] at eq
    obtain ⟨e0, e1, e2, e3, e4, e5, e6, e7, e8, e9, e10, e11, e12, e13, e14⟩ := eq
    rw [← e9] at q9
    rw [← e10] at q10
    omega
  · have es : swapL [b0, b1, b2, b3, b4, b5, b6, b7, b8, b9, b10, b11, b12, b13, b14] 10 = [b0, b1, b2, b3, b4, b5, b6, b7, b8, b9, b11, b10, b12, b13, b14] := rfl
    rw [es] at eq km ⊢
    simp only [List.cons.injEq, and_true] at eq
    obtain ⟨e0, e1, e2, e3, e4, e5, e6, e7, e8, e9, e10, e11, e12, e13, e14⟩ := eq
    rw [← e10] at q10
    rw [← e11] at q11
    have w : W [b12, b13, b14] = 10000 := by simp only [W, wt_up p12, wt_dig p13, wt_dig p14] <;> rfl
    have f1 : lin [b0, b1, b2, b3, b4, b5, b6, b7, b8, b9, b10, b11, b12, b13, b14] = lstp (lstp (lin [b0, b1, b2, b3, b4, b5, b6, b7, b8, b9]) b10) b11 * W [b12, b13, b14] + lin [b12, b13, b14] := lin_mid2 [b0, b1, b2, b3, b4, b5, b6, b7, b8, b9] [b12, b13, b14] b10 b11
    have f2 : lin [b0, b1, b2, b3, b4, b5, b6, b7, b8, b9, b11, b10, b12, b13, b14] = lstp (lstp (lin [b0, b1, b2, b3, b4, b5, b6, b7, b8, b9]) b11) b10 * W [b12, b13, b14] + lin [b12, b13, b14] := lin_mid2 [b0, b1, b2, b3, b4, b5, b6, b7, b8, b9] [b12, b13, b14] b11 b10
    rw [f1, lstp_up p11, lstp_up p10, w] at hm
    rw [f2, lstp_up p10, lstp_up p11, w] at km
    rw [UInt8.toNat_inj.1 (swp_10 _ _ _ _ p10 p11 hm km)]
  · have es : swapL [b0, b1, b2, b3, b4, b5, b6, b7, b8, b9, b10, b11, b12, b13, b14] 11 = [b0, b1, b2, b3, b4, b5, b6, b7, b8, b9, b10, b12, b11, b13, b14] := rfl
    rw [es] at eq km ⊢
    simp only [List.cons.injEq, and_true] at eq
    obtain ⟨e0, e1, e2, e3, e4, e5, e6, e7, e8, e9, e10, e11, e12, e13, e14⟩ := eq
    rw [← e11] at q11
    rw [← e12] at q12
    have w : W [b13, b14] = 100 := by simp only [W, wt_dig p13, wt_dig p14] <;> rfl
    have f1 : lin [b0, b1, b2, b3, b4, b5, b6, b7, b8, b9, b10, b11, b12, b13, b14] = lstp (lstp (lin [b0, b1, b2, b3, b4, b5, b6, b7, b8, b9, b10]) b11) b12 * W [b13, b14] + lin [b13, b14] := lin_mid2 [b0, b1, b2, b3, b4, b5, b6, b7, b8, b9, b10] [b13, b14] b11 b12
    have f2 : lin [b0, b1, b2, b3, b4, b5, b6, b7, b8, b9, b10, b12, b11, b13, b14] = lstp (lstp (lin [b0, b1, b2, b3, b4, b5, b6, b7, b8, b9, b10]) b12) b11 * W [b13, b14] + lin [b13, b14] := lin_mid2 [b0, b1, b2, b3, b4, b5, b6, b7, b8, b9, b10] [b13, b14] b12 b11
    rw [f1, lstp_up p12, lstp_up p11, w] at hm
    rw [f2, lstp_up p11, lstp_up p12, w] at km
    rw [UInt8.toNat_inj.1 (swp_11 _ _ _ _ p11 p12 hm km)]
  · have es : swapL [b0, b1, b2, b3, b4, b5, b6, b7, b8, b9, b10, b11, b12, b13, b14] 12 = [b0, b1, b2, b3, b4, b5, b6, b7, b8, b9, b10, b11, b13, b12, b14] := rfl
    rw [es] at eq km ⊢
    simp only [List.cons.injEq, and_true] at eq
    obtain ⟨e0, e1, e2, e3, e4, e5, e6, e7, e8, e9, e10, e11, e12, e13, e14⟩ := eq
    rw [← e12] at q12
    rw [← e13] at q13
    omega
  · have es : swapL [b0, b1, b2, b3, b4, b5, b6, b7, b8, b9, b10, b11, b12, b13, b14] 13 = [b0, b1, b2, b3, b4, b5, b6, b7, b8, b9, b10, b11, b12, b14, b13] := rfl
    rw [es] at eq km ⊢
    simp only [List.cons.injEq, and_true] at eq
    obtain ⟨e0, e1, e2, e3, e4, e5, e6, e7, e8, e9, e10, e11, e12, e13, e14⟩ := eq
    rw [← e13] at q13
    rw [← e14] at q14
    have w : W [] = 1 := by simp only [W] <;> rfl
    have f1 : lin [b0, b1, b2, b3, b4, b5, b6, b7, b8, b9, b10, b11, b12, b13, b14] = lstp (lstp (lin [b0, b1, b2, b3, b4, b5, b6, b7, b8, b9, b10, b11, b12]) b13) b14 * W [] + lin [] := lin_mid2 [b0, b1, b2, b3, b4, b5, b6, b7, b8, b9, b10, b11, b12] [] b13 b14
    have f2 : lin [b0, b1, b2, b3, b4, b5, b6, b7, b8, b9, b10, b11, b12, b14, b13] = lstp (lstp (lin [b0, b1, b2, b3, b4, b5, b6, b7, b8, b9, b10, b11, b12]) b14) b13 * W [] + lin [] := lin_mid2 [b0, b1, b2, b3, b4, b5, b6, b7, b8, b9, b10, b11, b12] [] b14 b13
    rw [f1, lstp_dig p14, lstp_dig p13, w] at hm
    rw [f2, lstp_dig p13, lstp_dig p14, w] at km
    rw [UInt8.toNat_inj.1 (swp_13 _ _ _ _ p13 p14 hm km)]
end Go.Proofs.YteicnjemaemijaaGreatDoor
