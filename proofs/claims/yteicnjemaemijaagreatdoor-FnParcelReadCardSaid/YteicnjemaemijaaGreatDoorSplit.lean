/- What the reference's division of a text at a byte answers. No condition. -/
import Derived.Test.YteicnjemaemijaaGreatDoorSplitLaw
import Derived.Test.YteicnjemaemijaaGreatDoorDraws
import Derived.Test.YteicnjemaemijaaGreatDoorOwn
import Derived.Test.YteicnjemaemijaaGreatDoorMod
import Derived.IntWalk
import Derived.Laws.AppendOwn
namespace Go.Proofs.YteicnjemaemijaaGreatDoor
open Go.RowKit Go.PlainAid
set_option maxRecDepth 100000
set_option linter.unusedVariables false
theorem info_strT : (Tryz.prog.info? 9).map (fun i => (i.zero, i.size, i.bytes)) = some (some (.string ⟨#[]⟩), 1, 16) := by kernel_rfl
theorem own_emptyT (w : World) : Own (w.alloc (.cells #[] 9)) w.heap.size 9 1 vS (.slice (some ⟨w.heap.size, 0, none⟩) 0 0) [] :=
  ⟨by simp, .inr ⟨w.heap.size, 0, #[], rfl, Nat.le_refl _, by show (w.heap.push _)[w.heap.size]? = _; simp, by simp, by unfold maxLen; omega, by simp, by simp⟩⟩
theorem own_text {w : World} {base : Nat} {v : Value} {xs : List ByteArray} {t : ByteArray} (h : w.ownsRow base 9 1 v (xs.length + 1) (xs.flatMap vS ++ [.string t])) : Own w base 9 1 vS v (xs ++ [t]) := by
  unfold Own
  rw [List.flatMap_append, List.length_append]
  exact h
theorem vS_len1 : ∀ x : ByteArray, (vS x).length = 1 := fun _ => rfl
theorem take_next (s : ByteArray) {k : Nat} (h : k < s.size) : s.data.toList.take (k + 1) = s.data.toList.take k ++ [s[k]] := by
  rw [List.take_succ_eq_append_getElem (by simpa using h)]; rfl
theorem ext_word (s : ByteArray) (f i : Nat) : (s.extract f i).data.toList = (s.data.toList.take i).drop f := by
  rw [Lib.extract_data]
  rw [List.drop_take]
def SplitP (c : UInt8) (l : List UInt8) (w : World) (e : Ending) (w' : World) : Prop := ∃ (v : Value) (xs : List ByteArray), e = .returned v ∧ SliceOf w' 1 vS v xs ∧ Hid (IsSplit c l (xs.map (·.data.toList))) ∧ (∀ x ∈ xs, x.size ≤ l.length) ∧ Below w.heap.size w w'
/-- The same, and where the words lie: in a block that the call made. -/
def SplitQ (c : UInt8) (l : List UInt8) (w : World) (e : Ending) (w' : World) : Prop := ∃ (v : Value) (xs : List ByteArray), e = .returned v ∧ SliceOf w' 1 vS v xs ∧ Hid (IsSplit c l (xs.map (·.data.toList))) ∧ (∀ x ∈ xs, x.size ≤ l.length) ∧ (∀ b off n c, v = .slice (some ⟨b, off, none⟩) n c → w.heap.size ≤ b) ∧ Below w.heap.size w w'
theorem SplitQ.toP {c : UInt8} {l : List UInt8} {w : World} {e : Ending} {w' : World} (h : SplitQ c l w e w') : SplitP c l w e w' := by
  obtain ⟨v, xs, h1, h2, h3, h4, -, h6⟩ := h
  exact ⟨v, xs, h1, h2, h3, h4, h6⟩
theorem own_from {α : Type} {w : World} {base size : Nat} {e : TypeId} {vals : α → List Value} {v : Value} {xs : List α} (h : Own w base e size vals v xs) : ∀ b off n c, v = .slice (some ⟨b, off, none⟩) n c → base ≤ b := by
  intro b off n c hv
  subst hv
  rcases h.2 with ⟨h0, -⟩ | ⟨g, cap, cur, hv, hb, -⟩
  · cases h0
  · injection hv with e1; injection e1 with e1; injection e1 with e1; omega
set_option maxHeartbeats 3200000 in
theorem splitSQ (s : ByteArray) (c : UInt8) (w : World) (hs : s.size ≤ 16777216) : Calls Tryz.prog 17 #[.string s, .int .u8 (c.toNat : Int)] w (SplitQ c s.data.toList w) := by
  obtain ⟨i0, hi, hz0, hz1, hz2⟩ := info_parts info_strT
  have hE : Own (w.alloc (.cells #[] 9)) w.heap.size 9 1 vS (.slice (some ⟨w.heap.size, 0, none⟩) 0 0) [] := own_emptyT w
  have B0 : Below w.heap.size w (w.alloc (.cells #[] 9)) := by go_grown
  have st : IsSplit c (s.data.toList.take 0) (([] : List ByteArray).map (·.data.toList) ++ [(s.data.toList.take 0).drop 0]) := by simpa using split_start c
  go_enter Tryz.func17, Tryz.ntmps17
  go_wp2_with fail
  go_loopw [5, 6, 7] (fun ov fv iv wr => ∃ (i f : Nat) (xs : List ByteArray), f ≤ i ∧ i ≤ s.size ∧ iv = .int .i64 i ∧ fv = .int .i64 f ∧ xs.length ≤ i ∧ Own wr w.heap.size 9 1 vS ov xs ∧ Hid (IsSplit c (s.data.toList.take i) (xs.map (·.data.toList) ++ [(s.data.toList.take i).drop f])) ∧ (∀ x ∈ xs, x.size ≤ s.size) ∧ Below w.heap.size w wr) (fun _ _ iv _ => s.size - (intOf iv).toNat)
  case atStart => exact ⟨0, 0, [], Nat.le_refl _, Nat.zero_le _, rfl, rfl, Nat.le_refl _, hE, Lib.hid st, fun x hx => by simp at hx, B0⟩
  case round =>
    clear hE B0 st
    obtain ⟨i, f, xs, hfi, his, rfl, rfl, hxi, hO, HS, hx, hB⟩ := hrel
    have hlt0 : (s.data.toList.take i).length = i := by rw [List.length_take]; have := data_len s; omega
    have HL := Lib.hid hlt0; clear hlt0
    by_cases hlt : i < s.size
    · have tn := take_next s hlt
      have HT := Lib.hid tn; clear tn
      cases q : ((s[i].toNat : Int) == (c.toNat : Int))
      · have nb : s[i] ≠ c := fun e => by rw [e] at q; simp at q
        have hn : IsSplit c (s.data.toList.take (i + 1)) (xs.map (·.data.toList) ++ [(s.data.toList.take (i + 1)).drop f]) := by
          rw [HT.out, List.drop_append_of_le_length (by rw [HL.out]; exact hfi)]
          exact split_on nb HS.out
        have HN := Lib.hid hn; clear hn nb
        go_wp2_with fail
        go_roundw
        case rel => exact ⟨i + 1, f, xs, by omega, by omega, by go_num, rfl, by omega, hO, HN, hx, hB⟩
        case measure => simp [intOf]; omega
      · have eb : s[i] = c := by
          have : s[i].toNat = c.toNat := by have h := eq_of_beq q; omega
          exact UInt8.toNat_inj.1 this
        have hn : IsSplit c (s.data.toList.take (i + 1)) ((xs ++ [s.extract f i]).map (·.data.toList) ++ [(s.data.toList.take (i + 1)).drop (i + 1)]) := by
          have e1 : (s.data.toList.take (i + 1)).drop (i + 1) = [] := List.drop_eq_nil_of_le (List.length_take_le _ _)
          rw [e1, HT.out, eb, List.map_append, List.map_singleton, ext_word]
          exact split_at HS.out
        have HN := Lib.hid hn; clear hn eb
        have hz : (s.extract f i).size ≤ s.size := by simp only [ByteArray.size_extract]; omega
        have f0 : (0 : Int) ≤ (f : Int) := by omega
        have f1 : (f : Int) ≤ (i : Int) := by omega
        have f2 : (i : Int) ≤ (s.size : Int) := by omega
        go_wp2_with (at_builtin; refine wpList_append_own _ rfl (.tmp 20) (.tmp 25) 39 rfl w.heap.size 9 i0 (.string ⟨#[]⟩) 1 16 Tryz.underlying39 hi hz0 hz1 hz2 rfl (by decide) _ _ _ rfl (World.ownsRow.alloc hO _) _ 1 1 [.string (s.extract f i)] rfl rfl ?c1 ?c2 ?c3 ?c4 ?c5 ?_)
        try (case c1 =>
          intro j u hj
          match j, hj with
          | 0, hj => simp at hj; subst hj; simp [go_sem, Addr.add])
        case c2 => first | (intro u hu; simp at hu; subst hu; rfl) | rfl
        case c3 => unfold maxLen; omega
        case c4 => omega
        case c5 => have := hB.size; simp; omega
        intro v' w7 hown' hgrow _
        have hO7 : Own w7 w.heap.size 9 1 vS v' (xs ++ [s.extract f i]) := own_text hown'
        have hB7 : Below w.heap.size w w7 := (hB.alloc hB.size _).grown hgrow (by have := hB.size; simp; omega) (fun g hg => (World.ownsRow.lt hO g hg).1)
        clear hown' hgrow hO hB
        go_wp2_with fail
        go_roundw
        case rel => exact ⟨i + 1, i + 1, xs ++ [s.extract f i], Nat.le_refl _, by omega, by go_num, by go_num, by simp; omega, hO7, HN, fun x h => by
          rcases List.mem_append.1 h with h | h
          · exact hx x h
          · rw [List.mem_singleton.1 h]; exact hz, hB7⟩
        case measure => simp [intOf]; omega
    · obtain rfl : i = s.size := by omega
      have hn : IsSplit c s.data.toList ((xs ++ [s.extract f s.size]).map (·.data.toList)) := by
        have e1 : s.data.toList.take s.size = s.data.toList := List.take_of_length_le (by have := data_len s; omega)
        have h := HS.out
        rw [e1] at h
        rw [List.map_append, List.map_singleton, ext_word, e1]
        exact h
      have HN := Lib.hid hn; clear hn
      have hz : (s.extract f s.size).size ≤ s.size := by simp only [ByteArray.size_extract]; omega
      have f0 : (0 : Int) ≤ (f : Int) := by omega
      have f1 : (f : Int) ≤ (s.size : Int) := by omega
      go_wp2_with (at_builtin; refine wpList_append_own _ rfl (.tmp 29) (.tmp 33) 39 rfl w.heap.size 9 i0 (.string ⟨#[]⟩) 1 16 Tryz.underlying39 hi hz0 hz1 hz2 rfl (by decide) _ _ _ rfl (World.ownsRow.alloc hO _) _ 1 1 [.string (s.extract f s.size)] rfl rfl ?d1 ?d2 ?d3 ?d4 ?d5 ?_)
      try (case d1 =>
        intro j u hj
        match j, hj with
        | 0, hj => simp at hj; subst hj; simp [go_sem, Addr.add])
      case d2 => first | (intro u hu; simp at hu; subst hu; rfl) | rfl
      case d3 => unfold maxLen; omega
      case d4 => omega
      case d5 => have := hB.size; simp; omega
      intro v' w7 hown' hgrow _
      have hO7 : Own w7 w.heap.size 9 1 vS v' (xs ++ [s.extract f s.size]) := own_text hown'
      have hB7 : Below w.heap.size w w7 := (hB.alloc hB.size _).grown hgrow (by have := hB.size; simp; omega) (fun g hg => (World.ownsRow.lt hO g hg).1)
      clear hown' hgrow hO hB
      go_wp2_with fail
      go_ret
      exact ⟨v', xs ++ [s.extract f s.size], rfl, hO7.slice vS_len1 (by omega), HN, fun x h => by
        rw [data_len]
        rcases List.mem_append.1 h with h | h
        · exact hx x h
        · rw [List.mem_singleton.1 h]; exact hz, own_from hO7, hB7⟩
theorem splitS (s : ByteArray) (c : UInt8) (w : World) (hs : s.size ≤ 16777216) : Calls Tryz.prog 17 #[.string s, .int .u8 (c.toNat : Int)] w (SplitP c s.data.toList w) := (splitSQ s c w hs).mono fun _ _ h => h.toP
end Go.Proofs.YteicnjemaemijaaGreatDoor
