/- What the reference's Amended answers. No condition. -/
import Derived.Test.YtpodbdmeamgpgaaDoorAmended
namespace Go.Proofs.YtpodbdmeamgpgaaDoor
open Go.RowKit Go.PlainAid
open Go.Lib (itoa decDigits decDigits_two)
set_option maxRecDepth 100000
set_option linter.unusedVariables false
set_option maxHeartbeats 8000000 in
theorem amS (s : ByteArray) (w : World) (hs : s.size ≤ 281474976710656) (he0 : Tabs w) : Calls Tryd.prog 50 #[.string s] w (TPost (amL chrS 36 s) w) := by
  obtain ⟨i0, hi, hz0, hz1, hz2⟩ := info_parts info_str
  by_cases h15 : s.size = 15
  · have g15 : 15 ≤ s.size := by omega
    have g15' : s.size ≤ 15 := by omega
    have e15 : ((s.size : Int) != 15) = false := by rw [h15]; rfl
    have e15' : ((s.size : Int) == 15) = true := by rw [h15]; rfl
    have H15 := Lib.hid h15; clear h15
    go_enter Tryd.func50, Tryd.ntmps50
    go_wp2_with fail
    go_loopw [3, 4] (fun ov iv wr => ∃ n : Nat, n ≤ 15 ∧ iv = .int .i64 n ∧ Own wr w.heap.size 9 1 vS ov (tabOf chrS 36 s n) ∧ Tabs wr ∧ Below w.heap.size w wr) (fun _ iv _ => 15 - (intOf iv).toNat)
    case atStart => exact ⟨0, by omega, rfl, own_empty w, he0.keep (by go_grown), by go_grown⟩
    case round =>
      obtain ⟨n, hn, rfl, hO, hE, hB⟩ := hrel
      obtain ⟨wo, rfl⟩ : ∃ wo : World, wo = wr := ⟨_, rfl⟩
      by_cases hlt : n < 15
      · have hlt2 : n < s.size := by omega
        have e1 : IntKind.i64.wrap ((n : Int) + 1) = (n : Int) + 1 := IntWalk.i64_in _ (by omega)
        have t1 : ((n : Int) + 1).toNat = n + 1 := by omega
        have g0 : (0 : Int) ≤ (n : Int) + 1 := by omega
        have g1 : (n : Int) + 1 ≤ (s.size : Int) := by omega
        have g2 : (n : Int) ≤ (s.size : Int) := by omega
        have k1 := fun (wx : World) (q : UInt8) => run_string_add_sum (P := Tryd.prog) wx (s.extract 0 n) ⟨#[q]⟩ (by have := extz s 0 n; show _ + 1 ≤ _; omega)
        have k2 := fun (wx : World) (q : UInt8) => run_string_add_sum (P := Tryd.prog) wx (s.extract 0 n ++ ⟨#[q]⟩) (s.extract (n + 1) s.size) (by have := extz s 0 n; have := extz s (n + 1) s.size; rw [ByteArray.size_append]; show _ + 1 + _ ≤ _; omega)
        have hcv := conv1
        have hcv2 := conv1d
        go_wp2_with fail
        go_loopw [3, 5] (fun ov cv wr => ∃ k : Nat, k ≤ 36 ∧ cv = .int .i64 k ∧ Own wr w.heap.size 9 1 vS ov (tabOf chrS 36 s n ++ rowOf chrS s n k) ∧ Tabs wr ∧ Below w.heap.size w wr) (fun _ cv _ => 36 - (intOf cv).toNat)
        case atStart => exact ⟨0, by omega, rfl, by show Own _ _ _ _ _ _ (tabOf chrS 36 s n ++ []); rw [List.append_nil]; exact hO, hE, hB⟩
        case round =>
          clear hO hE hB
          obtain ⟨k, hk, rfl, hO, hE, hB⟩ := hrel
          by_cases hkl : k < 36
          · have hkl' : (k : Int) < 36 := by omega
            by_cases h9 : k ≤ 9
            · have h9i : ¬ (9 : Int) < (k : Int) := by omega
              go_wp2_with fail
              go_region
              go_wp2_with fail
              generalize htt : (s.extract 0 n ++ (⟨#[48 + UInt8.ofNat k]⟩ : ByteArray) ++ s.extract (n + 1) s.size) = t
              have HTT : Hid (t = chg s n (chrS k)) := Lib.hid (by rw [← htt]; unfold chg; unfold chrS; rw [if_pos h9, UInt8.ofNat_add]; rfl)
              clear htt
              have tz : t.size ≤ 31 := by
                have h1 := extz s 0 n
                have h2 := extz s (n + 1) s.size
                rw [HTT.out]; unfold chg; rw [ByteArray.size_append, ByteArray.size_append]; show _ + 1 + _ ≤ _; omega
              refine (parseLabS t _ (by omega) (hE.keep (by go_grown))).mono ?_
              rintro e w5 ⟨d, ok, rfl, HD, b5⟩
              have b25 : Below wr.heap.size wr w5 := chain (by go_grown) b5
              have hB5 := chain hB b25
              have hE5 := hE.keep b25
              have hO5 := hO.keep b25 (Nat.le_refl _)
              have hok := isLab_B HD.out
              rw [HTT.out] at hok
              have HOK := Lib.hid hok; clear hok b5 b25
              cases ok
              · have HN : Hid (hitB s n (chrS k) = false) := Lib.hid (by unfold hitB; rw [← HOK.out]; rfl)
                go_wp2_with fail
                go_roundw
                case rel => exact ⟨k + 1, by omega, by go_num, by rw [rowOf_succ, hits_no HN.out, List.append_nil]; exact hO5.alloc _, hE5.keep (by go_grown), hB5.alloc hB5.size _⟩
                case measure => simp [intOf]; omega
              · cases hq : (t.toList == s.toList)
                · have HN : Hid (hitB s n (chrS k) = true) := Lib.hid (by unfold hitB; rw [← HOK.out, ← HTT.out, hq]; rfl)
                  go_wp2_with (at_builtin; refine wpList_append_own _ rfl (.tmp 58) (.tmp 60) 55 rfl w.heap.size 9 i0 (.string ⟨#[]⟩) 1 16 Tryd.underlying55 hi hz0 hz1 hz2 rfl (by decide) _ _ _ rfl ((World.ownsRow.alloc (World.ownsRow.alloc hO5 _) _)) _ 1 1 [.string t] rfl rfl ?c1 ?c2 ?c3 ?c4 ?c5 ?_)
                  case c1 =>
                    intro j u hj
                    match j, hj with
                    | 0, hj => simp at hj; subst hj; simp [go_sem, Addr.add]
                  case c2 => intro u hu; simp at hu; subst hu; rfl
                  case c3 => have h1 := tabOf_len chrS 36 s n; have h2 := rowOf_len chrS s n k; rw [List.length_append]; unfold maxLen; omega
                  case c4 => have h1 := tabOf_len chrS 36 s n; have h2 := rowOf_len chrS s n k; rw [List.length_append]; omega
                  case c5 => have := hB5.size; simp; omega
                  intro v' w7 hown' hgrow _
                  have hO7 : Own w7 w.heap.size 9 1 vS v' ((tabOf chrS 36 s n ++ rowOf chrS s n k) ++ [t]) := own_snoc hown'
                  have hB7 : Below w.heap.size w w7 := ((hB5.alloc hB5.size _).alloc (by have := hB5.size; simp; omega) _).grown hgrow (by have := hB5.size; simp; omega) (fun g hg => (World.ownsRow.lt hO5 g hg).1)
                  have hE7 : Tabs w7 := he0.keep hB7
                  clear hown' hgrow hO5 hB5 hE5
                  go_wp2_with fail
                  go_roundw
                  case rel => exact ⟨k + 1, by omega, by go_num, by rw [rowOf_succ, hits_yes HN.out, ← List.append_assoc, ← HTT.out]; exact hO7, hE7, hB7⟩
                  case measure => simp [intOf]; omega
                · have HN : Hid (hitB s n (chrS k) = false) := Lib.hid (by unfold hitB; rw [← HTT.out, hq]; simp)
                  go_wp2_with fail
                  go_roundw
                  case rel => exact ⟨k + 1, by omega, by go_num, by rw [rowOf_succ, hits_no HN.out, List.append_nil]; exact hO5.alloc _, hE5.keep (by go_grown), hB5.alloc hB5.size _⟩
                  case measure => simp [intOf]; omega
            · have h9i : (9 : Int) < (k : Int) := by omega
              go_wp2_with fail
              go_region
              go_wp2_with fail
              generalize htt : (s.extract 0 n ++ (⟨#[UInt8.ofNat (65 + k - 10)]⟩ : ByteArray) ++ s.extract (n + 1) s.size) = t
              have HTT : Hid (t = chg s n (chrS k)) := Lib.hid (by rw [← htt]; unfold chg; unfold chrS; rw [if_neg h9, show 65 + k - 10 = 55 + k by omega])
              clear htt
              have tz : t.size ≤ 31 := by
                have h1 := extz s 0 n
                have h2 := extz s (n + 1) s.size
                rw [HTT.out]; unfold chg; rw [ByteArray.size_append, ByteArray.size_append]; show _ + 1 + _ ≤ _; omega
              refine (parseLabS t _ (by omega) (hE.keep (by go_grown))).mono ?_
              rintro e w5 ⟨d, ok, rfl, HD, b5⟩
              have b25 : Below wr.heap.size wr w5 := chain (by go_grown) b5
              have hB5 := chain hB b25
              have hE5 := hE.keep b25
              have hO5 := hO.keep b25 (Nat.le_refl _)
              have hok := isLab_B HD.out
              rw [HTT.out] at hok
              have HOK := Lib.hid hok; clear hok b5 b25
              cases ok
              · have HN : Hid (hitB s n (chrS k) = false) := Lib.hid (by unfold hitB; rw [← HOK.out]; rfl)
                go_wp2_with fail
                go_roundw
                case rel => exact ⟨k + 1, by omega, by go_num, by rw [rowOf_succ, hits_no HN.out, List.append_nil]; exact hO5.alloc _, hE5.keep (by go_grown), hB5.alloc hB5.size _⟩
                case measure => simp [intOf]; omega
              · cases hq : (t.toList == s.toList)
                · have HN : Hid (hitB s n (chrS k) = true) := Lib.hid (by unfold hitB; rw [← HOK.out, ← HTT.out, hq]; rfl)
                  go_wp2_with (at_builtin; refine wpList_append_own _ rfl (.tmp 58) (.tmp 60) 55 rfl w.heap.size 9 i0 (.string ⟨#[]⟩) 1 16 Tryd.underlying55 hi hz0 hz1 hz2 rfl (by decide) _ _ _ rfl ((World.ownsRow.alloc (World.ownsRow.alloc hO5 _) _)) _ 1 1 [.string t] rfl rfl ?c1 ?c2 ?c3 ?c4 ?c5 ?_)
                  case c1 =>
                    intro j u hj
                    match j, hj with
                    | 0, hj => simp at hj; subst hj; simp [go_sem, Addr.add]
                  case c2 => intro u hu; simp at hu; subst hu; rfl
                  case c3 => have h1 := tabOf_len chrS 36 s n; have h2 := rowOf_len chrS s n k; rw [List.length_append]; unfold maxLen; omega
                  case c4 => have h1 := tabOf_len chrS 36 s n; have h2 := rowOf_len chrS s n k; rw [List.length_append]; omega
                  case c5 => have := hB5.size; simp; omega
                  intro v' w7 hown' hgrow _
                  have hO7 : Own w7 w.heap.size 9 1 vS v' ((tabOf chrS 36 s n ++ rowOf chrS s n k) ++ [t]) := own_snoc hown'
                  have hB7 : Below w.heap.size w w7 := ((hB5.alloc hB5.size _).alloc (by have := hB5.size; simp; omega) _).grown hgrow (by have := hB5.size; simp; omega) (fun g hg => (World.ownsRow.lt hO5 g hg).1)
                  have hE7 : Tabs w7 := he0.keep hB7
                  clear hown' hgrow hO5 hB5 hE5
                  go_wp2_with fail
                  go_roundw
                  case rel => exact ⟨k + 1, by omega, by go_num, by rw [rowOf_succ, hits_yes HN.out, ← List.append_assoc, ← HTT.out]; exact hO7, hE7, hB7⟩
                  case measure => simp [intOf]; omega
                · have HN : Hid (hitB s n (chrS k) = false) := Lib.hid (by unfold hitB; rw [← HTT.out, hq]; simp)
                  go_wp2_with fail
                  go_roundw
                  case rel => exact ⟨k + 1, by omega, by go_num, by rw [rowOf_succ, hits_no HN.out, List.append_nil]; exact hO5.alloc _, hE5.keep (by go_grown), hB5.alloc hB5.size _⟩
                  case measure => simp [intOf]; omega
          · obtain rfl : k = 36 := by omega
            go_wp2_with fail
            go_roundw
            case rel => exact ⟨n + 1, by omega, by go_num, by rw [tabOf_succ]; exact hO, hE, hB⟩
            case measure => simp [intOf]; omega
      · obtain rfl : n = 15 := by omega
        have hlt2 : ¬ (15 : Int) < (s.size : Int) := by omega
        have HA := Lib.hid (amL_yes (f := chrS) (m := 36) H15.out)
        go_wp2_with fail
        go_ret
        exact ⟨_, rfl, by rw [HA.out]; exact hO, hB⟩
  · have HA := Lib.hid (amL_no (f := chrS) (m := 36) h15)
    have e15 : ((s.size : Int) != 15) = true := by simp; omega
    have e15' : ((s.size : Int) == 15) = false := by simp; omega
    go_enter Tryd.func50, Tryd.ntmps50
    go_wp2_with fail
    go_loopw [3, 4] (fun ov iv wr => ov = .slice (some ⟨w.heap.size, 0, none⟩) 0 0 ∧ iv = .int .i64 0 ∧ wr = w.alloc (.cells #[] 9)) (fun _ _ _ => 0)
    case atStart => exact ⟨rfl, rfl, rfl⟩
    case round =>
      obtain ⟨rfl, rfl, rfl⟩ := hrel
      by_cases hz : (0 : Int) < (s.size : Int)
      all_goals
        go_wp2_with fail
        go_ret
        exact ⟨_, rfl, by rw [HA.out]; exact own_empty w, by go_grown⟩
end Go.Proofs.YtpodbdmeamgpgaaDoor
