/- The program's SortSides, at every length. No condition. -/
import Derived.Test.YthpgnlmkgllonaaPdqG
import Derived.Test.YthpgnlmkgllonaaSortS
import Derived.Test.YthpgnlmkgllonaaInts
namespace Go.Proofs.Ythpgnlmkgllonaa
open Go.RowKit Go.PlainAid
set_option maxRecDepth 100000
set_option linter.unusedVariables false
def SortKP (xs : List Int) (w : World) (e : Ending) (w' : World) : Prop := ∃ (v : Value) (L : List Int), e = .returned v ∧ Own w' w.heap.size 3 1 vI v L ∧ Hid (L = sortD xs) ∧ L.length = xs.length ∧ Below w.heap.size w w'
set_option maxHeartbeats 3200000 in
theorem sortK (xs : List Int) (b off c : Nat) (w : World) (h : SliceOf w 1 vI (.slice (some ⟨b, off, none⟩) xs.length c) xs) (hb : b < w.heap.size) (hn : xs.length ≤ 1048576) : Calls Try.prog 6 #[.slice (some ⟨b, off, none⟩) xs.length c] w (SortKP xs w) := by
  have hc := h.at_
  obtain ⟨i0, hi, hz0, hz1, hz2⟩ := info_parts info_int
  have hE := own_empty (w := w) 3 3 rfl
  have B0 : Below w.heap.size w (w.alloc (.cells #[] 3)) := by go_grown
  clear h
  go_enter Try.func6, Try.ntmps6
  go_wp2_with (at_builtin; refine wpList_append_own _ rfl (.tmp 4) (.tmp 5) 22 rfl w.heap.size 3 i0 (.int .i64 0) 1 8 Try.underlying22 hi hz0 hz1 hz2 rfl (by decide) _ _ _ rfl hE _ xs.length c (xs.map (Value.int .i64)) rfl (by simp) ?c1 ?c2 ?c3 ?c4 ?c5 ?_)
  case c1 =>
    intro j u hu
    have hj := hc.out j u hu
    exact (B0.cell (p := (Addr.mk b off none).add j) (by rw [block_of_add]; exact hb)).trans hj
  case c2 => intro u hu; rw [List.mem_map] at hu; obtain ⟨x, -, rfl⟩ := hu; rfl
  case c3 => rw [List.length_nil]; unfold maxLen; omega
  case c4 => rw [List.length_nil]; omega
  case c5 => simp
  intro v' w1 hown hg hnil
  have hne : v' ≠ .slice none 0 0 := by first | exact hnil | (intro e; exact absurd (hnil.1 e).1 (by intro q; cases q))
  have hO : Own w1 w.heap.size 3 1 vI v' xs := own_nums hown
  have B1 : Below w.heap.size w w1 := B0.grown hg (by simp) (fun g' hg' => (World.ownsRow.lt hE g' hg').1)
  clear hown hg hE hc hi hz0 hz1 hz2 B0 hnil
  obtain ⟨g, cp, rfl, hgb, hgl, hc1, hc2⟩ := hO.some0 hne
  go_wp2_with fail
  refine (rev_any _ _).mono ?_
  rintro e w2 ⟨rfl, q2, b2⟩
  have B2 := chain B1 b2
  have l2 := cell_lt q2
  simp only at l2
  obtain ⟨n, hn2⟩ : ∃ n, n = xs.length := ⟨_, rfl⟩
  obtain ⟨d, hd⟩ : ∃ d : Nat → Int, d = fun k => (xs[k]?).getD 0 := ⟨_, rfl⟩
  have hrow : rowI n d = xs := by rw [hn2, hd]; exact rowI_of xs
  have hS : ISt w.heap.size w2.heap.size w1.heap.size g cp n w2 d := ⟨Nat.le_refl _, l2, by omega, by omega, by rw [hn2]; exact q2, by rw [hrow, hn2]; exact hO.keep b2 (Nat.le_refl _)⟩
  have C := sortAny hS (by omega)
  have HRW := Lib.hid hrow; have HN2 := Lib.hid hn2
  clear hrow hd hO hS q2
  go_wp2_with fail
  refine C.mono ?_
  rintro e w3 ⟨d', rfl, h3, h4, h5⟩
  have B3 : Below w.heap.size w w3 := B2.grown h5 B2.size (fun k hk => by injection hk with e; rw [← e]; exact hgb)
  have H3 := Lib.hid h3; clear h3 C h5 hn2
  go_wp2_with fail
  go_ret
  exact ⟨_, rowI n d', rfl, by have := H3.out.own; rw [HN2.out] at this ⊢; exact this, Lib.hid (by rw [← HRW.out]; exact sorted_list h4.out.1 h4.out.2), by rw [rowI_len, HN2.out], B3⟩
end Go.Proofs.Ythpgnlmkgllonaa
