/- What the library's Split and Cut give, at one byte. No condition. -/
import Derived.Test.YteicnjemaemijaaGreatDoorSplitLaw
import Derived.Lib.SplitLaws
import Derived.Lib.IndexMore
namespace Go.Proofs.YteicnjemaemijaaGreatDoor
open Go.Lib (index splitK splitB count countB)
theorem index_c (c : UInt8) : ∀ l : List UInt8, (index l [c] = -1 ∧ c ∉ l) ∨ ∃ i : Nat, index l [c] = (i : Int) ∧ i < l.length ∧ c ∉ l.take i ∧ l.drop i = c :: l.drop (i + 1)
  | [] => .inl ⟨rfl, by simp⟩
  | b :: l => by
    have ih := index_c c l
    rw [index]
    by_cases h : b = c
    · subst h
      exact .inr ⟨0, by simp [List.isPrefixOf], by simp, by simp, by simp⟩
    · have hp : [c].isPrefixOf (b :: l) = false := by
        simp only [List.isPrefixOf, Bool.and_true, beq_eq_false_iff_ne, ne_eq]
        exact fun e => h e.symm
      rw [hp, if_neg (by simp)]
      rcases ih with ⟨h1, h2⟩ | ⟨i, h1, h2, h3, h4⟩
      · refine .inl ⟨by rw [h1]; rfl, fun hm => ?_⟩
        rcases List.mem_cons.1 hm with e | e
        · exact h e.symm
        · exact h2 e
      · refine .inr ⟨i + 1, ?_, by first | (simp; done) | (simp; omega), fun hm => ?_, by simpa using h4⟩
        · rw [h1, if_neg (by first | (simp; done) | (simp; omega))]; rfl
        · rw [List.take_succ_cons] at hm
          rcases List.mem_cons.1 hm with e | e
          · exact h e.symm
          · exact h3 e
theorem splitK_is (c : UInt8) : ∀ (k : Nat) (l : List UInt8), l.count c = k → IsSplit c l (splitK [c] 0 k l)
  | 0, l, h => ⟨by simp [splitK], rfl, fun w hw => by
      simp [splitK] at hw
      subst hw
      exact List.count_eq_zero.1 h⟩
  | k + 1, l, h => by
    rcases index_c c l with ⟨_, h2⟩ | ⟨i, h1, h2, h3, h4⟩
    · rw [List.count_eq_zero.2 h2] at h; omega
    · have hl : l = l.take i ++ c :: l.drop (i + 1) := by rw [← h4, List.take_append_drop]
      have hc : (l.drop (i + 1)).count c = k := by
        have e : l.count c = (l.take i).count c + (1 + (l.drop (i + 1)).count c) := by
          conv => lhs; rw [hl]
          rw [List.count_append, List.count_cons_self]; omega
        rw [List.count_eq_zero.2 h3] at e; omega
      have ih := splitK_is c k (l.drop (i + 1)) hc
      have es : splitK [c] 0 (k + 1) l = l.take i :: splitK [c] 0 k (l.drop (i + 1)) := by
        rw [splitK, if_neg (by rw [h1]; first | (simp; done) | (simp; omega)), h1]
        first | rfl | simp
      rw [es]
      refine ⟨by simp, ?_, fun w hw => ?_⟩
      · rw [joinC_cons c _ ih.1, ih.2.1, ← hl]
      · rcases List.mem_cons.1 hw with e | e
        · rw [e]; exact h3
        · exact ih.2.2 w e
theorem lib_split (c : UInt8) (s : ByteArray) : IsSplit c s.data.toList ((splitB ⟨#[c]⟩ 0 (countB s ⟨#[c]⟩) s).map (·.data.toList)) := by
  rw [Go.Lib.splitB_data]
  exact splitK_is c _ _ (by rw [← Go.Lib.count_one])
/-- What Cut gives: the first word and all behind it. -/
theorem lib_cut {c : UInt8} {l a b : List UInt8} (ha : c ∉ a) (h : l = a ++ c :: b) : (Go.Lib.cut l [c]).1 = a ∧ (Go.Lib.cut l [c]).2.1 = b := by
  rcases index_c c l with ⟨_, h2⟩ | ⟨i, h1, h2, h3, h4⟩
  · exact absurd (by rw [h]; simp) h2
  · have hl : l = l.take i ++ c :: l.drop (i + 1) := by rw [← h4, List.take_append_drop]
    obtain ⟨e1, e2⟩ := cut_unique h3 ha (hl.symm.trans h)
    unfold Go.Lib.cut
    rw [if_pos (by rw [h1]; omega), h1]
    exact ⟨e1, e2⟩
theorem lib_cut_len (l : List UInt8) (c : UInt8) : (Go.Lib.cut l [c]).1.length ≤ l.length ∧ (Go.Lib.cut l [c]).2.1.length ≤ l.length := by
  unfold Go.Lib.cut
  split
  · simp; omega
  · simp
end Go.Proofs.YteicnjemaemijaaGreatDoor
