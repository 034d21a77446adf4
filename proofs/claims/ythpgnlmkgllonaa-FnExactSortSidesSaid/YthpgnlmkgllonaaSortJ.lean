/- The program's SortSides: up to twelve numbers in falling order. No condition. -/
import Derived.Test.YthpgnlmkgllonaaSortI
import Derived.Test.YthpgnlmkgllonaaShelf
import Derived.Sort.Walk13a
namespace Go.Proofs.Ythpgnlmkgllonaa
open Go.RowKit Go.PlainAid Go.Sort
set_option maxRecDepth 100000
set_option linter.unusedVariables false
set_option maxHeartbeats 1600000 in
theorem pdqSmall (B blk n c : Nat) (d : Array Int) (m : Int) (W : World) (h : RowAt W blk d) (hb : blk < W.heap.size) (hB : W.cell? ⟨B, 0, none⟩ = some (.iface 31 (.slice (some ⟨blk, 0, none⟩) n c))) (hne : B ≠ blk) (hn : d.size = n) (hs : n ≤ 12) :
    Calls Try.prog 14 #[.iface 36 (.pointer (some ⟨B, 0, none⟩)), .int .i64 0, .int .i64 n, .int .i64 m] W fun e w' => e = .returned (.tuple #[]) ∧ RowAt w' blk (insertionSort gtI d 0 n) ∧ Saves blk W w' := by
  have C := insSort B blk n c d W h hb hB hne hn (by omega)
  have h12 : (n : Int) ≤ 12 := by omega
  clear h hB hn
  go_enter Try.func14, Try.ntmps14
  go_wp2_with fail
  refine wp_loop_rounds 1 ?_
  rw [rounds_succ]
  go_wp2_with fail
  refine C.mono ?_
  rintro e w1 ⟨rfl, R, S⟩
  go_wp2_with fail
  (try simp only [Exit.inBlock, Exit.then])
  refine bodyPost_ret (results_none rfl _ _ _) rfl ?_
  exact ⟨rfl, R, S⟩
set_option maxHeartbeats 1600000 in
theorem sortSmall (B blk n c : Nat) (d : Array Int) (W : World) (h : RowAt W blk d) (hb : blk < W.heap.size) (hB : W.cell? ⟨B, 0, none⟩ = some (.iface 31 (.slice (some ⟨blk, 0, none⟩) n c))) (hne : B ≠ blk) (hn : d.size = n) (hs : n ≤ 12) :
    Calls Try.prog 11 #[.iface 36 (.pointer (some ⟨B, 0, none⟩))] W fun e w' => e = .returned (.tuple #[]) ∧ RowAt w' blk (insertionSort gtI d 0 n) ∧ Saves blk W w' := by
  have ml : Sem.run Try.prog (method 177 36 (.pointer (some ⟨B, 0, none⟩)) "Len") W = .ok (47, .slice (some ⟨blk, 0, none⟩) n c) W := meth_len B _ W hB
  have cl : Calls Try.prog 47 #[.slice (some ⟨blk, 0, none⟩) n c] W fun e w' => e = .returned (.int .i64 n) ∧ W = w' := by
    clear h hB hn ml
    go_enter Try.func47, Try.ntmps47
    go_wp2
    go_ret
    exact ⟨rfl, rfl⟩
  have C := fun m => pdqSmall B blk n c d m W h hb hB hne hn hs
  by_cases h1 : n ≤ 1
  · have e0 : insertionSort gtI d 0 n = d := by
      unfold insertionSort
      exact insOuter_stop _ _ _ _ _ (by omega)
    have H := Lib.hid h
    have E0 := Lib.hid e0
    have h1' : (n : Int) ≤ 1 := by omega
    clear h hB hn e0
    go_enter Try.func11, Try.ntmps11
    go_wp2_with fail
    refine cl.mono ?_
    rintro e w1 ⟨rfl, rfl⟩
    go_wp2_with fail
    (try simp only [Exit.inBlock, Exit.then])
    refine bodyPost_ret (results_none rfl _ _ _) rfl ?_
    exact ⟨rfl, by rw [E0.out]; exact H.out, Saves.refl _ _⟩
  · have h1' : ¬ (n : Int) ≤ 1 := by omega
    have hu : IntKind.u64.wrap (n : Int) = (n : Int) := by simp [IntKind.wrap, IntKind.bits, IntKind.signed]; omega
    have bl := Try.bits_Len (n : Int) W (by omega) (by omega)
    clear h hB hn
    go_enter Try.func11, Try.ntmps11
    go_wp2_with fail
    refine cl.mono ?_
    rintro e w1 ⟨rfl, rfl⟩
    go_wp2_with fail
    refine bl.mono ?_
    rintro e w1 ⟨rfl, rfl⟩
    go_wp2_with fail
    refine (C _).mono ?_
    rintro e w1 ⟨rfl, R, S⟩
    go_wp2_with fail
    go_end0
    exact ⟨rfl, R, S⟩
/-- A row of the call's own as a list of numbers. -/
theorem own_empty {w : World} (T : TypeId) (e : TypeId) (h : T = e) : Own (w.alloc (.cells #[] T)) w.heap.size e 1 vI (.slice (some ⟨w.heap.size, 0, none⟩) 0 0) [] := by
  subst h
  exact ⟨rfl, .inr ⟨w.heap.size, 0, #[], rfl, Nat.le_refl _, by show (w.heap.push _)[w.heap.size]? = _; simp, Nat.le_refl _, by unfold maxLen; omega, rfl, rfl⟩⟩
theorem own_nums {w : World} {base n : Nat} {e : TypeId} {v : Value} {xs : List Int} (h : w.ownsRow base e 1 v n (xs.map (Value.int .i64))) : Own w base e 1 vI v xs := by
  have hl : n = xs.length := by have := h.1; simpa using this.symm
  subst hl
  unfold Own
  rw [flatMap_vI]
  exact h
theorem Own.some_ {w : World} {base : Nat} {e : TypeId} {v : Value} {xs : List Int} (h : Own w base e 1 vI v xs) (h0 : 0 < xs.length) : ∃ g c, v = .slice (some ⟨g, 0, none⟩) xs.length c ∧ base ≤ g ∧ g < w.heap.size ∧ xs.length ≤ c ∧ c ≤ maxLen := by
  rcases h.2 with ⟨-, h1⟩ | ⟨g, cap, cur, hv, hbg, hg, h1, h2, h3, h4⟩
  · omega
  · exact ⟨g, cap, hv, hbg, (Array.getElem?_eq_some_iff.1 hg).1, h1, h2⟩
theorem Own.rowAt {w : World} {base g n c : Nat} {e : TypeId} {xs : List Int} (h : Own w base e 1 vI (.slice (some ⟨g, 0, none⟩) n c) xs) : RowAt w g xs.toArray := by
  obtain ⟨h1, ⟨hv, -⟩ | ⟨g', cap, cur, hv, hbg, hg, h2, h3, h4, h5⟩⟩ := h
  · cases hv
  · injection hv with e1 e2 e3
    injection e1 with e1
    injection e1 with e1 _
    subst e1
    intro t ht
    have ht' : t < xs.length := by simpa using ht
    rw [flatMap_vI] at h5
    refine ⟨?_, by simp [World.frozen?, hg]⟩
    have : cur.toList[t]? = some (.int .i64 xs[t]) := by
      have e2 : (cur.toList.take (xs.length * 1))[t]? = (xs.map (Value.int .i64))[t]? := by rw [h5]
      rw [List.getElem?_take, if_pos (by omega)] at e2
      rw [e2, List.getElem?_map, List.getElem?_eq_getElem ht']; rfl
    have e3 : xs.toArray[t]! = xs[t] := by simp [ht']
    simp only [World.cell?, hg, e3]
    rw [← Array.getElem?_toList]
    simpa using this
theorem RowAt.slice {w : World} {g c : Nat} {d : Array Int} (h : RowAt w g d) (hg : g < w.heap.size) (h1 : d.size ≤ c) (h2 : c ≤ maxLen) : SliceOf w 1 vI (.slice (some ⟨g, 0, none⟩) d.size c) d.toList := by
  refine ⟨_, c, by simp, by simpa using h1, h2, fun hn => ⟨g, 0, rfl, hg, fun k x j u hx hu => ?_⟩⟩
  have hk : k < d.size := by have := (List.getElem?_eq_some_iff.1 hx).1; simpa using this
  have hj : j = 0 := by
    have := (List.getElem?_eq_some_iff.1 hu).1
    simp [vI] at this; omega
  subst hj
  simp [vI] at hu
  subst hu
  have := (h k hk).1
  have e3 : d[k]! = x := by
    have : d[k]? = some x := by rw [← Array.getElem?_toList]; exact hx
    simp [getElem!_def, this]
  rw [e3] at this
  simpa using this
theorem insertion_list {d : Array Int} {n : Nat} (hn : d.size = n) : (insertionSort gtI d 0 n).toList = sortD d.toList := by
  subst hn
  obtain ⟨h1, h2⟩ := insertionSort_holds (lt := gtI) swo_gtI d 0 d.size (Nat.zero_le _) (Nat.le_refl _)
  exact sortD_of h1 h2
def SortedP (xs : List Int) (w : World) (e : Ending) (w' : World) : Prop := ∃ v, e = .returned v ∧ SliceOf w' 1 vI v (sortD xs) ∧ Below w.heap.size w w'
theorem SliceOf.src {w : World} {v : Value} {xs : List Int} (h : SliceOf w 1 vI v xs) (h0 : 0 < xs.length) : ∃ b off c, v = .slice (some ⟨b, off, none⟩) xs.length c ∧ b < w.heap.size ∧ Hid (∀ j u, (xs.map (Value.int .i64))[j]? = some u → w.cell? ((Addr.mk b off none).add j) = some u) := by
  obtain ⟨A, c, rfl, h1, h2, h3⟩ := h
  obtain ⟨b, off, rfl, hb, hc⟩ := h3 h0
  refine ⟨b, off, c, rfl, hb, fun j u hu => ?_⟩
  rw [List.getElem?_map, Option.map_eq_some_iff] at hu
  obtain ⟨x, hx, rfl⟩ := hu
  have := hc j x 0 (.int .i64 x) hx rfl
  unfold Addr.add
  split
  · next e => simp [e] at this ⊢; exact this
  · simpa using this
theorem rev_any (s : Value) (W : World) : Calls Try.prog 12 #[.iface 31 s] W fun e w' => e = .returned (.iface 36 (.pointer (some ⟨W.heap.size, 0, none⟩))) ∧ w'.cell? ⟨W.heap.size, 0, none⟩ = some (.iface 31 s) ∧ Below W.heap.size W w' := by
  go_enter Try.func12, Try.ntmps12
  go_wp2_with fail
  go_ret
  exact ⟨rfl, by simp [go_sem], by go_grown⟩
set_option maxHeartbeats 3200000 in
theorem sortI (xs : List Int) (v : Value) (w : World) (h : SliceOf w 1 vI v xs) (h0 : 0 < xs.length) (hn : xs.length ≤ 12) : Calls Try.prog 6 #[v] w (SortedP xs w) := by
  obtain ⟨b, off, c, rfl, hb, hc⟩ := h.src h0
  obtain ⟨i0, hi, hz0, hz1, hz2⟩ := info_parts info_int
  have hE := own_empty (w := w) 3 3 rfl
  have B0 : Below w.heap.size w (w.alloc (.cells #[] 3)) := by go_grown
  clear h
  go_enter Try.func6, Try.ntmps6
  go_wp2_with (at_builtin; refine wpList_append_own _ rfl (.tmp 4) (.tmp 5) 22 rfl w.heap.size 3 i0 (.int .i64 0) 1 8 Try.underlying22 hi hz0 hz1 hz2 rfl (by decide) _ _ _ rfl hE _ xs.length c (xs.map (Value.int .i64)) rfl (by simp) ?c1 ?c2 ?c3 ?c4 ?c5 ?_)
  case c1 =>
    intro j u hu
    have hj := hc.out j u hu
    exact (B0.cell (p := (Addr.mk b off none).add j) (by rw [block_of_add]; exact hb)).trans hj
  case c2 => intro u hu; rw [List.mem_map] at hu; obtain ⟨x, -, rfl⟩ := hu; rfl
  case c3 => rw [List.length_nil]; unfold maxLen; omega
  case c4 => rw [List.length_nil]; omega
  case c5 => simp
  intro v' w1 hown hg _
  have hO : Own w1 w.heap.size 3 1 vI v' xs := own_nums hown
  have B1 : Below w.heap.size w w1 := B0.grown hg (by simp) (fun g' hg' => (World.ownsRow.lt hE g' hg').1)
  clear hown hg hE hc hi hz0 hz1 hz2 B0
  obtain ⟨g, cp, rfl, hgb, hgl, hc1, hc2⟩ := hO.some_ h0
  have R1 := hO.rowAt
  go_wp2_with fail
  refine (rev_any _ _).mono ?_
  rintro e w2 ⟨rfl, q2, b2⟩
  have B2 := chain B1 b2
  have R2 := R1.keep hgl b2
  have C := sortSmall w1.heap.size g xs.length cp xs.toArray w2 R2 (by have := b2.size; omega) q2 (by omega) (by simp) hn
  go_wp2_with fail
  refine C.mono ?_
  rintro e w3 ⟨rfl, R3, S3⟩
  have B3 : Below w.heap.size w w3 := B2.trans (S3.below hgb B2.size)
  have hl3 : g < w3.heap.size := by have := S3.size; have := b2.size; omega
  have e3 : (insertionSort gtI xs.toArray 0 xs.length).toList = sortD xs := by
    have := insertion_list (d := xs.toArray) (n := xs.length) (by simp)
    simpa using this
  have z3 : (insertionSort gtI xs.toArray 0 xs.length).size = xs.length := by rw [← Array.length_toList, e3, sortD_length]
  have s3 := R3.slice hl3 (by rw [z3]; exact hc1) hc2
  rw [e3, z3] at s3
  clear C R1 R2 R3 e3 z3 hO
  go_wp2_with fail
  go_ret
  exact ⟨_, rfl, s3, B3⟩
end Go.Proofs.Ythpgnlmkgllonaa
