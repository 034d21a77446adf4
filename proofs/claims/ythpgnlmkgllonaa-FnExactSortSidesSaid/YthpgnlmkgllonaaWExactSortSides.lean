/- The law FnExactSortSides walked: it returns true. No condition. -/
import Derived.Test.YthpgnlmkgllonaaSortK
import Derived.Test.YthpgnlmkgllonaaMarkI
namespace Go.Proofs.Ythpgnlmkgllonaa
open Go.RowKit Go.PlainAid
set_option maxRecDepth 100000
set_option linter.unusedVariables false
set_option maxHeartbeats 6400000 in
theorem walk_ExactSortSides (u0 : Value) (w : World) (p0 : VInts w u0) : Calls Try.prog 3 #[u0] w fun e w' => e = .returned (.bool true) ∧ Below w.heap.size w w' := by
  obtain ⟨xs, hok, sl⟩ := p0
  obtain ⟨A, c, rfl, hl, hm⟩ := sl.form
  by_cases hb : 1048576 < (xs.length : Int)
  · go_enter Try.func3, Try.ntmps3
    go_wp2_with fail
    go_ret
    exact ⟨rfl, Below.refl _ _⟩
  have hn : xs.length ≤ 1048576 := by omega
  obtain ⟨L, hL⟩ : ∃ L, L = sortD xs := ⟨_, rfl⟩
  have hLn : L.length = xs.length := by rw [hL]; exact sortD_length xs
  have HL := Lib.hid hL; clear hL
  go_enter Try.func3, Try.ntmps3
  go_wp2_with fail
  refine (toIntS_any xs _ _ sl hn).mono ?_
  rintro e w1 ⟨va, rfl, oa, b1⟩
  have sa := oa.slice vI_len (by omega)
  go_wp2_with fail
  refine (sortS xs va w1 sa hn).mono ?_
  rintro e w2 ⟨v0, rfl, s0, b2⟩
  rw [← HL.out] at s0
  have B2 := chain b1 b2
  clear oa sa b1 b2
  have SL := sl.keep B2 (Nat.le_refl _)
  go_wp2_with fail
  refine (toIntS_some xs _ w2 SL hn).mono ?_
  rintro e w3 ⟨rfl, ox, b3⟩
  have lt3 := (World.ownsRow.lt ox w2.heap.size rfl).2
  have z3 := b3.size
  go_wp2_with fail
  refine (sortK xs _ _ _ w3 (ox.slice vI_len (by omega)) lt3 hn).mono ?_
  rintro e w4 ⟨vg, L4, rfl, og, hL4, hl4, b4⟩
  obtain rfl : L4 = L := by rw [hL4.out, HL.out]
  clear hl4
  have C4 := chain b3 b4
  have z4 := b4.size
  replace ox := ox.keep b4 (Nat.le_refl _)
  clear b4
  go_wp2_with fail
  refine (eqIntS_any L4 L4 vg v0 w4 (og.slice vI_len (by omega)) (s0.keep C4 (Nat.le_refl _))).mono ?_
  rintro e w5 ⟨rfl, b5⟩
  rw [decide_eq_true (rfl : L4 = L4)]
  have C5 := chain C4 b5
  replace ox := ox.keep b5 (Nat.le_refl _)
  replace og := og.keep b5 (Nat.le_refl _)
  have z5 := b5.size
  clear b5 C4
  go_wp2_with fail
  refine (toIntS_any xs _ w5 (SL.keep C5 (Nat.le_refl _)) hn).mono ?_
  rintro e w6 ⟨vb, rfl, ob, b6⟩
  have C6 := chain C5 b6
  replace ox := ox.keep b6 (Nat.le_refl _)
  replace og := og.keep b6 (Nat.le_refl _)
  have z6 := b6.size
  clear b6 C5
  go_wp2_with fail
  refine (eqIntS_any xs xs _ vb w6 (ox.slice vI_len (by omega)) (ob.slice vI_len (by omega))).mono ?_
  rintro e w7 ⟨rfl, b7⟩
  rw [decide_eq_true (rfl : xs = xs)]
  have C7 := chain C6 b7
  replace ox := ox.keep b7 (Nat.le_refl _)
  replace og := og.keep b7 (Nat.le_refl _)
  have z7 := b7.size
  clear b7 C6 ob
  obtain ⟨M, hM⟩ : ∃ M : Int, M = ((1 + xs.length : Nat) : Int) := ⟨_, rfl⟩
  have m0 : ¬ M < 0 := by omega
  have MX := markI_any xs _ 1 _ w7 ox (by omega) (by omega) (by omega)
  rw [← hM] at MX
  go_wp2_with fail
  refine MX.mono ?_
  rintro e w8 ⟨rfl, mx, g8⟩
  clear MX mx
  have C8 : Below w2.heap.size w2 w8 := C7.trans ((ox.grownM g8 (by omega)).mono (by omega))
  have z8 := g8.size
  have hgx : vg.ownBlock = none ∨ vg.ownBlock ≠ Value.ownBlock (.slice (some ⟨w2.heap.size, 0, none⟩) xs.length xs.length) := by
    refine .inr fun e => ?_
    have := World.ownsRow.lt og w2.heap.size e
    omega
  replace og : Own w8 w3.heap.size 3 1 vI vg L4 := World.ownsRow.kept og g8 hgx
  clear g8 ox C7 hgx
  go_wp2_with fail
  refine (eqIntS_any L4 L4 vg v0 w8 (og.slice vI_len (by omega)) (s0.keep C8 (Nat.le_refl _))).mono ?_
  rintro e w9 ⟨rfl, b9⟩
  rw [decide_eq_true (rfl : L4 = L4)]
  have C9 := chain C8 b9
  replace og := og.keep b9 (Nat.le_refl _)
  have z9 := b9.size
  clear b9 C8
  have MG := markI_any L4 vg 1 _ w9 og (by omega) (by omega) (by omega)
  rw [hLn, ← hM] at MG
  have HD := fun (Q : World) (s : SliceOf Q 1 vI vg (marksI 1 xs.length)) => heldI_any xs.length vg 1 Q s (by omega) (by omega)
  rw [← hM] at HD
  have HH := Lib.hid HD
  clear HD hM
  go_wp2_with fail
  refine MG.mono ?_
  rintro e w10 ⟨rfl, m2, g10⟩
  clear MG
  have C10 : Below w2.heap.size w2 w10 := C9.trans ((og.grownM g10 (by omega)).mono (by omega))
  have z10 := g10.size
  clear C9 g10 og
  go_wp2_with fail
  refine (HH.out _ (m2.slice vI_len (by omega))).mono ?_
  rintro e w11 ⟨rfl, rfl⟩
  go_wp2_with fail
  refine (toIntS_some xs _ w10 (SL.keep C10 (Nat.le_refl _)) hn).mono ?_
  rintro e w12 ⟨rfl, oh, b12⟩
  have lt12 := (World.ownsRow.lt oh w10.heap.size rfl).2
  have C12 := chain C10 b12
  replace m2 := m2.keep b12 (Nat.le_refl _)
  have z12 := b12.size
  clear b12 C10
  go_wp2_with fail
  refine (sortK xs _ _ _ w12 (oh.slice vI_len (by omega)) lt12 hn).mono ?_
  rintro e w13 ⟨vh, L13, rfl, ohh, hL13, hl13, b13⟩
  obtain rfl : L13 = L4 := by rw [hL13.out, HL.out]
  have C13 := chain C12 b13
  replace m2 := m2.keep b13 (Nat.le_refl _)
  have z13 := b13.size
  clear b13 C12 oh hl13
  go_wp2_with fail
  refine (eqIntS_any L13 L13 vh v0 w13 (ohh.slice vI_len (by omega)) (s0.keep C13 (Nat.le_refl _))).mono ?_
  rintro e w14 ⟨rfl, b14⟩
  rw [decide_eq_true (rfl : L13 = L13)]
  have C14 := chain C13 b14
  replace m2 := m2.keep b14 (Nat.le_refl _)
  clear b14 C13
  go_wp2_with fail
  refine (HH.out _ (m2.slice vI_len (by omega))).mono ?_
  rintro e w15 ⟨rfl, rfl⟩
  go_wp2_with fail
  go_ret
  exact ⟨rfl, chain B2 C14⟩
end Go.Proofs.Ythpgnlmkgllonaa
