/- What Amended answers: the labels one letter away; the program's and the reference's alike. No condition. -/
import Derived.Test.YtpodbdmeamgpgaaDoorLabFacts
namespace Go.Proofs.YtpodbdmeamgpgaaDoor
open Go.RowKit Go.PlainAid
open Go.Lib (itoa decDigits decDigits_two)
set_option maxRecDepth 100000
set_option linter.unusedVariables false
/-- The label that a text would be, and whether it is one. -/
def candD (l : List UInt8) : LabelD := ⟨((l.headD 0).toNat : Int) - 48, serL ((l.drop 1).take 9), str ((l.drop 10).take 3)⟩
def isLabB (l : List UInt8) : Bool := labOk (candD l) && decide (flabL (candD l) = l)
theorem isLab_B {l : List UInt8} {d : LabelD} {ok : Bool} (h : IsLab l d ok) : ok = isLabB l := by
  have yes : ∀ e : LabelD, labOk e = true → flabL e = l → candD l = e := by
    intro e he hl
    have hn : l ≠ [] := by rw [← hl]; exact flab_ne he
    obtain ⟨c, r, rfl⟩ : ∃ c r, l = c :: r := by cases l with | nil => exact absurd rfl hn | cons c r => exact ⟨c, r, rfl⟩
    have hs : (str (c :: r)).data.toList = c :: r := rfl
    have := cand_lab (s := str (c :: r)) (c := c) he hl rfl
    rw [this]
    unfold candD
    have h3 : (str (c :: r)).extract 10 13 = str (((c :: r).drop 10).take 3) := str_of (ext_take (str (c :: r)) 10 13)
    rw [h3]; rfl
  rcases h with ⟨rfl, h1, h2⟩ | ⟨rfl, rfl, h3⟩
  · unfold isLabB; rw [yes d h1 h2, h1, decide_eq_true h2]; rfl
  · unfold isLabB
    cases hl : labOk (candD l)
    · rfl
    · rw [decide_eq_false (h3 _ hl)]; rfl
theorem isLabB_15 {l : List UInt8} (h : isLabB l = true) : Lab15 l := by
  unfold isLabB at h
  rw [Bool.and_eq_true, decide_eq_true_eq] at h
  rw [← h.2]; exact lab15_flab h.1
/-- Letter i of s made c. -/
def chg (s : ByteArray) (i : Nat) (c : UInt8) : ByteArray := s.extract 0 i ++ (⟨#[c]⟩ : ByteArray) ++ s.extract (i + 1) s.size
def hitB (s : ByteArray) (i : Nat) (c : UInt8) : Bool := isLabB (chg s i c).data.toList && !((chg s i c).toList == s.toList)
def hits (s : ByteArray) (i : Nat) (c : UInt8) : List ByteArray := if hitB s i c then [chg s i c] else []
theorem hits_no {s : ByteArray} {i : Nat} {c : UInt8} (h : hitB s i c = false) : hits s i c = [] := if_neg (by rw [h]; simp)
theorem hits_yes {s : ByteArray} {i : Nat} {c : UInt8} (h : hitB s i c = true) : hits s i c = [chg s i c] := if_pos h
theorem hits_len (s : ByteArray) (i : Nat) (c : UInt8) : (hits s i c).length ≤ 1 := by unfold hits; split <;> simp
def rowOf (f : Nat → UInt8) (s : ByteArray) (i k : Nat) : List ByteArray := (List.range k).flatMap fun c => hits s i (f c)
def tabOf (f : Nat → UInt8) (m : Nat) (s : ByteArray) (k : Nat) : List ByteArray := (List.range k).flatMap fun i => rowOf f s i m
theorem rowOf_succ (f : Nat → UInt8) (s : ByteArray) (i k : Nat) : rowOf f s i (k + 1) = rowOf f s i k ++ hits s i (f k) := by unfold rowOf; rw [List.range_succ, List.flatMap_append]; simp
theorem tabOf_succ (f : Nat → UInt8) (m : Nat) (s : ByteArray) (k : Nat) : tabOf f m s (k + 1) = tabOf f m s k ++ rowOf f s k m := by unfold tabOf; rw [List.range_succ, List.flatMap_append]; simp
theorem rowOf_len (f : Nat → UInt8) (s : ByteArray) (i : Nat) : ∀ k, (rowOf f s i k).length ≤ k
  | 0 => by simp [rowOf]
  | k + 1 => by rw [rowOf_succ, List.length_append]; have := rowOf_len f s i k; have := hits_len s i (f k); omega
theorem tabOf_len (f : Nat → UInt8) (m : Nat) (s : ByteArray) : ∀ k, (tabOf f m s k).length ≤ k * m
  | 0 => by simp [tabOf]
  | k + 1 => by rw [tabOf_succ, List.length_append, Nat.succ_mul]; have := tabOf_len f m s k; have := rowOf_len f s k m; omega
def chrI (k : Nat) : UInt8 := UInt8.ofNat k
def chrS (k : Nat) : UInt8 := UInt8.ofNat (if k ≤ 9 then 48 + k else 55 + k)
/-- What is proposed for a text. -/
def amL (f : Nat → UInt8) (m : Nat) (s : ByteArray) : List ByteArray := if s.size = 15 then tabOf f m s 15 else []
theorem amL_no {f : Nat → UInt8} {m : Nat} {s : ByteArray} (h : ¬ s.size = 15) : amL f m s = [] := if_neg h
theorem amL_yes {f : Nat → UInt8} {m : Nat} {s : ByteArray} (h : s.size = 15) : amL f m s = tabOf f m s 15 := if_pos h
theorem chg_data {s : ByteArray} {i : Nat} {c : UInt8} : (chg s i c).data.toList = s.data.toList.take i ++ [c] ++ s.data.toList.drop (i + 1) := by
  unfold chg
  simp only [ByteArray.data_append, Array.toList_append, ext_take]
  have e3 : (s.data.toList.drop (i + 1)).take (s.size - (i + 1)) = s.data.toList.drop (i + 1) := List.take_of_length_le (by rw [List.length_drop, data_len]; exact Nat.le_refl _)
  rw [e3]; simp
theorem lab15_char {l : List UInt8} (h : Lab15 l) {c : UInt8} (hc : c ∈ l) : (48 ≤ c.toNat ∧ c.toNat ≤ 57) ∨ (65 ≤ c.toNat ∧ c.toNat ≤ 90) := by
  obtain ⟨b0, b1, b2, b3, b4, b5, b6, b7, b8, b9, b10, b11, b12, b13, b14, rfl, p0, p1, p2, p3, p4, p5, p6, p7, p8, p9, p10, p11, p12, p13, p14, -⟩ := h
  simp only [List.mem_cons, List.not_mem_nil, or_false] at hc
  rcases hc with rfl | rfl | rfl | rfl | rfl | rfl | rfl | rfl | rfl | rfl | rfl | rfl | rfl | rfl | rfl <;> first | (left; assumption) | (right; assumption)
theorem hits_char {s : ByteArray} {i : Nat} {c : UInt8} (h : ¬ ((48 ≤ c.toNat ∧ c.toNat ≤ 57) ∨ (65 ≤ c.toNat ∧ c.toNat ≤ 90))) : hits s i c = [] := by
  refine hits_no ?_
  unfold hitB
  cases hl : isLabB (chg s i c).data.toList
  · rfl
  · exfalso
    refine h (lab15_char (isLabB_15 hl) ?_)
    rw [chg_data]; simp
theorem flatMap_filter {α β : Type} (f : α → List β) (p : α → Bool) : ∀ (l : List α), (∀ x ∈ l, p x = false → f x = []) → l.flatMap f = (l.filter p).flatMap f
  | [], _ => rfl
  | x :: l, h => by
    have ih := flatMap_filter f p l (fun y hy => h y (List.mem_cons_of_mem _ hy))
    cases hp : p x
    · rw [List.flatMap_cons, h x (List.mem_cons_self ..) hp, List.filter_cons_of_neg (by rw [hp]; simp), ih]; rfl
    · rw [List.flatMap_cons, List.filter_cons_of_pos hp, List.flatMap_cons, ih]
def chrN (k : Nat) : Bool := (48 ≤ k && k ≤ 57) || (65 ≤ k && k ≤ 90)
theorem range_chr : (List.range 256).filter chrN = (List.range 36).map fun k => if k ≤ 9 then 48 + k else 55 + k := by decide +kernel
/-- All bytes, or digits and capitals alone: the same rows. -/
theorem row_same (s : ByteArray) (i : Nat) : rowOf chrI s i 256 = rowOf chrS s i 36 := by
  unfold rowOf
  rw [flatMap_filter _ chrN _ (fun x hx hp => by
    have hx' : x < 256 := List.mem_range.1 hx
    refine hits_char ?_
    have e : (chrI x).toNat = x := by unfold chrI; rw [UInt8.toNat_ofNat_of_lt' (by simp [UInt8.size]; omega)]
    rw [e]
    unfold chrN at hp
    simp only [Bool.or_eq_false_iff, Bool.and_eq_false_iff, decide_eq_false_iff_not] at hp
    omega), range_chr, List.flatMap_map]
  rfl
theorem tab_same (s : ByteArray) : ∀ k, tabOf chrI 256 s k = tabOf chrS 36 s k
  | 0 => by unfold tabOf; simp
  | k + 1 => by rw [tabOf_succ, tabOf_succ, tab_same s k, row_same]
theorem am_same (s : ByteArray) : amL chrI 256 s = amL chrS 36 s := by unfold amL; rw [tab_same]
theorem am_len (f : Nat → UInt8) (m : Nat) (hm : m ≤ 256) (s : ByteArray) : (amL f m s).length ≤ 3840 := by
  unfold amL
  split
  · have := tabOf_len f m s 15; omega
  · simp
theorem info_str : (Tryd.prog.info? 9).map (fun i => (i.zero, i.size, i.bytes)) = some (some (.string ⟨#[]⟩), 1, 16) := by kernel_rfl
theorem vS_len : ∀ s : ByteArray, (vS s).length = 1 := fun _ => rfl
/-- A list of texts of the call's own. -/
def TPost (xs : List ByteArray) (w : World) (e : Ending) (w' : World) : Prop := ∃ v, e = .returned v ∧ Own w' w.heap.size 9 1 vS v xs ∧ Below w.heap.size w w'
theorem own_empty (w : World) : Own (w.alloc (.cells #[] 9)) w.heap.size 9 1 vS (.slice (some ⟨w.heap.size, 0, none⟩) 0 0) [] :=
  ⟨by simp, .inr ⟨w.heap.size, 0, #[], rfl, Nat.le_refl _, by show (w.heap.push _)[w.heap.size]? = _; simp, by simp, by unfold maxLen; omega, by simp, by simp⟩⟩
theorem own_snoc {w : World} {base : Nat} {v : Value} {xs ys : List ByteArray} {t : ByteArray} (h : w.ownsRow base 9 1 v (xs.length + ys.length + 1) (xs.flatMap vS ++ (ys.flatMap vS ++ [.string t]))) : Own w base 9 1 vS v ((xs ++ ys) ++ [t]) := by
  unfold Own
  rw [List.flatMap_append, List.flatMap_append, List.length_append, List.length_append, List.append_assoc]
  exact h
set_option maxHeartbeats 8000000 in
theorem amI (s : ByteArray) (w : World) (hs : s.size ≤ 281474976710656) (he0 : Errs w) : Calls Tryd.prog 51 #[.string s] w (TPost (amL chrI 256 s) w) := by
  obtain ⟨i0, hi, hz0, hz1, hz2⟩ := info_parts info_str
  by_cases h15 : s.size = 15
  · have g15 : 15 ≤ s.size := by omega
    have g15' : s.size ≤ 15 := by omega
    have e15 : ((s.size : Int) != 15) = false := by rw [h15]; rfl
    have e15' : ((s.size : Int) == 15) = true := by rw [h15]; rfl
    have H15 := Lib.hid h15; clear h15
    go_enter Tryd.func51, Tryd.ntmps51
    go_wp2_with fail
    go_loopw [3, 4] (fun ov iv wr => ∃ n : Nat, n ≤ 15 ∧ iv = .int .i64 n ∧ Own wr w.heap.size 9 1 vS ov (tabOf chrI 256 s n) ∧ Errs wr ∧ Below w.heap.size w wr) (fun _ iv _ => 15 - (intOf iv).toNat)
    case atStart => exact ⟨0, by omega, rfl, own_empty w, he0.keep (by go_grown), by go_grown⟩
    case round =>
      obtain ⟨n, hn, rfl, hO, hE, hB⟩ := hrel
      obtain ⟨wo, rfl⟩ : ∃ wo : World, wo = wr := ⟨_, rfl⟩
      by_cases hlt : n < 15
      · have hlt2 : n < s.size := by omega
        have e1 : IntKind.i64.wrap ((n : Int) + 1) = (n : Int) + 1 := IntWalk.i64_in _ (by omega)
        have t1 : ((n : Int) + 1).toNat = n + 1 := by omega
        have g0 : (0 : Int) ≤ (n : Int) + 1 := by omega
        have g1 : (n : Int) + 1 ≤ (s.size : Int) := by omega
        have g2 : (n : Int) ≤ (s.size : Int) := by omega
        have k1 := fun (wx : World) (q : UInt8) => run_string_add_sum (P := Tryd.prog) wx (s.extract 0 n) ⟨#[q]⟩ (by have := extz s 0 n; show _ + 1 ≤ _; omega)
        have k2 := fun (wx : World) (q : UInt8) => run_string_add_sum (P := Tryd.prog) wx (s.extract 0 n ++ ⟨#[q]⟩) (s.extract (n + 1) s.size) (by have := extz s 0 n; have := extz s (n + 1) s.size; rw [ByteArray.size_append]; show _ + 1 + _ ≤ _; omega)
        have hcv := conv1
        have hcv2 := conv1d
        go_wp2_with fail
        go_loopw [3, 5] (fun ov cv wr => ∃ k : Nat, k ≤ 256 ∧ cv = .int .i64 k ∧ Own wr w.heap.size 9 1 vS ov (tabOf chrI 256 s n ++ rowOf chrI s n k) ∧ Errs wr ∧ Below w.heap.size w wr) (fun _ cv _ => 256 - (intOf cv).toNat)
        case atStart => exact ⟨0, by omega, rfl, by show Own _ _ _ _ _ _ (tabOf chrI 256 s n ++ []); rw [List.append_nil]; exact hO, hE, hB⟩
        case round =>
          clear hO hE hB
          obtain ⟨k, hk, rfl, hO, hE, hB⟩ := hrel
          by_cases hkl : k < 256
          · have hkl' : (k : Int) < 256 := by omega
            go_wp2_with fail
            go_region
            go_wp2_with fail
            generalize htt : (s.extract 0 n ++ (⟨#[UInt8.ofNat k]⟩ : ByteArray) ++ s.extract (n + 1) s.size) = t
            have HTT : Hid (t = chg s n (chrI k)) := Lib.hid (by rw [← htt]; unfold chg; rfl)
            clear htt
            have tz : t.size ≤ 31 := by
              have h1 := extz s 0 n
              have h2 := extz s (n + 1) s.size
              rw [HTT.out]; unfold chg; rw [ByteArray.size_append, ByteArray.size_append]; show _ + 1 + _ ≤ _; omega
            refine (parseLabI t _ (by omega) (hE.keep (by go_grown))).mono ?_
            rintro e w5 ⟨d, ok, rfl, HD, b5⟩
            have b25 : Below wr.heap.size wr w5 := chain (by go_grown) b5
            have hB5 := chain hB b25
            have hE5 := hE.keep b25
            have hO5 := hO.keep b25 (Nat.le_refl _)
            have hok := isLab_B HD.out
            rw [HTT.out] at hok
            have HOK := Lib.hid hok; clear hok b5 b25
            cases ok
            · have HN : Hid (hitB s n (chrI k) = false) := Lib.hid (by unfold hitB; rw [← HOK.out]; rfl)
              go_wp2_with fail
              go_roundw
              case rel => exact ⟨k + 1, by omega, by go_num, by rw [rowOf_succ, hits_no HN.out, List.append_nil]; exact hO5.alloc _, hE5.keep (by go_grown), hB5.alloc hB5.size _⟩
              case measure => simp [intOf]; omega
            · cases hq : (t.toList == s.toList)
              · have HN : Hid (hitB s n (chrI k) = true) := Lib.hid (by unfold hitB; rw [← HOK.out, ← HTT.out, hq]; rfl)
                go_wp2_with (at_builtin; refine wpList_append_own _ rfl (.tmp 48) (.tmp 50) 55 rfl w.heap.size 9 i0 (.string ⟨#[]⟩) 1 16 Tryd.underlying55 hi hz0 hz1 hz2 rfl (by decide) _ _ _ rfl ((World.ownsRow.alloc (World.ownsRow.alloc hO5 _) _)) _ 1 1 [.string t] rfl rfl ?c1 ?c2 ?c3 ?c4 ?c5 ?_)
                case c1 =>
                  intro j u hj
                  match j, hj with
                  | 0, hj => simp at hj; subst hj; simp [go_sem, Addr.add]
                case c2 => intro u hu; simp at hu; subst hu; rfl
                case c3 => have h1 := tabOf_len chrI 256 s n; have h2 := rowOf_len chrI s n k; rw [List.length_append]; unfold maxLen; omega
                case c4 => have h1 := tabOf_len chrI 256 s n; have h2 := rowOf_len chrI s n k; rw [List.length_append]; omega
                case c5 => have := hB5.size; simp; omega
                intro v' w7 hown' hgrow _
                have hO7 : Own w7 w.heap.size 9 1 vS v' ((tabOf chrI 256 s n ++ rowOf chrI s n k) ++ [t]) := own_snoc hown'
                have hB7 : Below w.heap.size w w7 := ((hB5.alloc hB5.size _).alloc (by have := hB5.size; simp; omega) _).grown hgrow (by have := hB5.size; simp; omega) (fun g hg => (World.ownsRow.lt hO5 g hg).1)
                have hE7 : Errs w7 := he0.keep hB7
                clear hown' hgrow hO5 hB5 hE5
                go_wp2_with fail
                go_roundw
                case rel => exact ⟨k + 1, by omega, by go_num, by rw [rowOf_succ, hits_yes HN.out, ← List.append_assoc, ← HTT.out]; exact hO7, hE7, hB7⟩
                case measure => simp [intOf]; omega
              · have HN : Hid (hitB s n (chrI k) = false) := Lib.hid (by unfold hitB; rw [← HTT.out, hq]; simp)
                go_wp2_with fail
                go_roundw
                case rel => exact ⟨k + 1, by omega, by go_num, by rw [rowOf_succ, hits_no HN.out, List.append_nil]; exact hO5.alloc _, hE5.keep (by go_grown), hB5.alloc hB5.size _⟩
                case measure => simp [intOf]; omega
          · obtain rfl : k = 256 := by omega
            go_wp2_with fail
            go_roundw
            case rel => exact ⟨n + 1, by omega, by go_num, by rw [tabOf_succ]; exact hO, hE, hB⟩
            case measure => simp [intOf]; omega
      · obtain rfl : n = 15 := by omega
        have hlt2 : ¬ (15 : Int) < (s.size : Int) := by omega
        have HA := Lib.hid (amL_yes (f := chrI) (m := 256) H15.out)
        go_wp2_with fail
        go_ret
        exact ⟨_, rfl, by rw [HA.out]; exact hO, hB⟩
  · have HA := Lib.hid (amL_no (f := chrI) (m := 256) h15)
    have e15 : ((s.size : Int) != 15) = true := by simp; omega
    have e15' : ((s.size : Int) == 15) = false := by simp; omega
    go_enter Tryd.func51, Tryd.ntmps51
    go_wp2_with fail
    go_ret
    exact ⟨_, rfl, by rw [HA.out]; exact own_empty w, by go_grown⟩
end Go.Proofs.YtpodbdmeamgpgaaDoor
