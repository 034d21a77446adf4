/- What Amended proposes: labels that differ from the text in one place, and among them the label that was changed. And how the laws look a text up. No condition. -/
import Derived.Test.YtpodbdmeamgpgaaDoorStrS
import Derived.Test.YtpodbdmeamgpgaaDoorAmended
namespace Go.Proofs.YtpodbdmeamgpgaaDoor
open Go.RowKit Go.PlainAid
set_option maxRecDepth 100000
set_option linter.unusedVariables false
theorem am_mem {f : Nat → UInt8} {m : Nat} {s u : ByteArray} (h : u ∈ amL f m s) : s.size = 15 ∧ ∃ (i : Nat) (c : UInt8), i < 15 ∧ u = chg s i c ∧ isLabB u.data.toList = true ∧ (u.toList == s.toList) = false := by
  unfold amL at h
  split at h
  · rename_i h15
    refine ⟨h15, ?_⟩
    unfold tabOf rowOf at h
    simp only [List.mem_flatMap, List.mem_range] at h
    obtain ⟨i, hi, k, hk, hu⟩ := h
    unfold hits at hu
    split at hu
    · rename_i hh
      simp only [List.mem_singleton] at hu
      subst hu
      unfold hitB at hh
      rw [Bool.and_eq_true, Bool.not_eq_true'] at hh
      exact ⟨i, f k, hi, rfl, hh.1, hh.2⟩
    · simp at hu
  · simp at h
theorem am_in {s t : ByteArray} {i : Nat} {c : UInt8} (ht : t.size = 15) (hi : i < 15) (hs : s = chg t i c) (hl : isLabB s.data.toList = true) (hne : (s.toList == t.toList) = false) : s ∈ amL chrI 256 t := by
  rw [amL_yes ht]
  unfold tabOf rowOf
  refine List.mem_flatMap.2 ⟨i, List.mem_range.2 hi, List.mem_flatMap.2 ⟨c.toNat, List.mem_range.2 c.toNat_lt, ?_⟩⟩
  have e : chrI c.toNat = c := by unfold chrI; simp
  rw [e, hits_yes (by unfold hitB; rw [← hs, hl, hne]; rfl), ← hs]
  exact List.mem_singleton.2 rfl
theorem same_of_data {u s : ByteArray} (h : u.data.toList = s.data.toList) : (u.toList == s.toList) = true := by
  rw [Lib.toList_data, Lib.toList_data, h]; simp
theorem chg_far {s : ByteArray} {i : Nat} {c : UInt8} (hi : i < s.size) (j : Nat) (hj : j ≠ i) : (chg s i c).data.toList[j]? = s.data.toList[j]? := by
  rw [chg_data]; exact (chg_at (by rw [data_len]; exact hi) j hj).symm
theorem am_self {f : Nat → UInt8} {m : Nat} {t : ByteArray} (h : isLabB t.data.toList = true) : amL f m t = [] := by
  refine List.eq_nil_iff_forall_not_mem.2 fun u hu => ?_
  obtain ⟨h15, i, c, hi, rfl, hl, hne⟩ := am_mem hu
  have := same_of_data (one_change (isLabB_15 hl) (isLabB_15 h) hi (fun j hj => chg_far (by omega) j hj))
  rw [hne] at this; cases this
theorem lab15_len {l : List UInt8} (h : Lab15 l) : l.length = 15 := by
  obtain ⟨b0, b1, b2, b3, b4, b5, b6, b7, b8, b9, b10, b11, b12, b13, b14, rfl, -⟩ := h
  rfl
/-- They differ in one place alone. -/
theorem am_dif {f : Nat → UInt8} {m : Nat} {s u : ByteArray} (h : u ∈ amL f m s) : s.size = 15 ∧ u.size = 15 ∧ isLabB u.data.toList = true ∧ ∃ i : Nat, i < 15 ∧ ∀ j : Nat, j < 15 → ∃ a b : UInt8, (∀ h : j < u.size, u[j]'h = a) ∧ (∀ h : j < s.size, s[j]'h = b) ∧ ((a.toNat : Int) != (b.toNat : Int)) = decide (j = i) := by
  obtain ⟨h15, i, c, hi, hu, hl, hne⟩ := am_mem h
  have hsz : u.size = 15 := by have := lab15_len (isLabB_15 hl); rw [data_len] at this; exact this
  have hA : ∀ j, j ≠ i → u.data.toList[j]? = s.data.toList[j]? := fun j hj => by rw [hu]; exact chg_far (by omega) j hj
  refine ⟨h15, hsz, hl, i, hi, fun j hj => ⟨u[j]'(by omega), s[j]'(by omega), fun _ => rfl, fun _ => rfl, ?_⟩⟩
  have qu : u.data.toList[j]? = some (u[j]'(by omega)) := List.getElem?_eq_getElem (by rw [data_len]; omega)
  have qs : s.data.toList[j]? = some (s[j]'(by omega)) := List.getElem?_eq_getElem (by rw [data_len]; omega)
  by_cases hji : j = i
  · have hab : ¬ (u[j]'(by omega)) = (s[j]'(by omega)) := by
      intro e
      rw [e, ← qs] at qu
      have : u.data.toList = s.data.toList := List.ext_getElem? fun n => by
        by_cases hn : n = i
        · rw [hn, ← hji]; exact qu
        · exact hA n hn
      have := same_of_data this
      rw [hne] at this; cases this
    rw [decide_eq_true hji]
    rw [bne_iff_ne]
    intro e
    exact hab (UInt8.toNat_inj.1 (Int.ofNat.inj e))
  · have e := hA j hji
    rw [qu, qs] at e
    injection e with e
    rw [e, decide_eq_false hji]; simp
set_option maxHeartbeats 1600000 in
theorem index_any (xs : List ByteArray) (v : Value) (s : ByteArray) (w : World) (h : SliceOf w 1 vS v xs) : Calls Tryd.prog 55 #[v, .string s] w fun e w' => ∃ r : Int, e = .returned (.int .i64 r) ∧ -1 ≤ r ∧ Hid (s ∈ xs → 0 ≤ r) ∧ Below w.heap.size w w' := by
  obtain ⟨A, c, rfl, hl, hm⟩ := h.form
  unfold maxLen at hm
  go_enter Tryd.func55, Tryd.ntmps55
  go_wp2_with fail
  go_loopw [5] (fun i wr => ∃ k : Nat, k ≤ xs.length ∧ i = .int .i64 k ∧ Hid (∀ j x, j < k → xs[j]? = some x → x ≠ s) ∧ Below w.heap.size w wr) (fun i _ => xs.length - (intOf i).toNat)
  case atStart => exact ⟨0, Nat.zero_le _, rfl, fun j x hj => absurd hj (by omega), Below.refl _ _⟩
  case round =>
    obtain ⟨k, hk, rfl, H, hB⟩ := hrel
    by_cases hlt : k < xs.length
    · obtain ⟨b_, off_, x, rfl, hb_, hx, hcell⟩ := h.cells hlt
      have d : w.cell? ⟨b_, off_ + k, none⟩ = some (.string x) := by simpa using hcell 0 _ rfl
      replace d := (hB.cell (p := ⟨b_, off_ + k, none⟩) hb_).trans d
      clear hcell
      have k0 : (0 : Int) ≤ (k : Int) := by omega
      have k1 : (k : Int) < (xs.length : Int) := by omega
      cases hq : (x.toList == s.toList)
      · have HQ : Hid (x ≠ s) := by intro e; rw [e] at hq; simp at hq
        go_wp2_with fail
        go_roundw
        case rel =>
          refine ⟨k + 1, by omega, by go_num, ?_, hB⟩
          intro j y hj hy
          rcases Nat.lt_or_ge j k with q | q
          · exact H.out j y q hy
          · obtain rfl : j = k := by omega
            rw [hx.out] at hy; injection hy with hy; rw [← hy]; exact HQ.out
        case measure => simp [intOf]; omega
      · go_wp2_with fail
        go_ret
        exact ⟨_, rfl, by omega, fun _ => by omega, hB⟩
    · obtain rfl : k = xs.length := by omega
      go_wp2
      go_ret
      refine ⟨_, rfl, by omega, fun hm => ?_, hB⟩
      obtain ⟨j, hj, he⟩ := List.getElem_of_mem hm
      exact absurd he (H.out j _ hj (List.getElem?_eq_getElem hj))
end Go.Proofs.YtpodbdmeamgpgaaDoor
