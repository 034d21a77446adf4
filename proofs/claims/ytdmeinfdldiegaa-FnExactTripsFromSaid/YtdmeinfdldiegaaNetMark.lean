/- How the laws mark a network that they made themselves. No condition. -/
import Derived.Test.YtdmeinfdldiegaaMarks
import Derived.Test.YtdmeinfdldiegaaNetCopy
namespace Go.Proofs.Ytdmeinfdldiegaa
open Go.RowKit Go.PlainAid
set_option maxRecDepth 100000
set_option linter.unusedVariables false
/-- Nothing has turned outside the blocks from lo on and before hi, but that new ones came. -/
structure Between (lo hi : Nat) (w w' : World) : Prop where
  os : w'.os = w.os
  tape : w'.tape = w.tape
  output : w'.output = w.output
  size : w.heap.size ≤ w'.heap.size
  block : ∀ i, i < w.heap.size → (i < lo ∨ hi ≤ i) → w'.heap[i]? = w.heap[i]?
theorem Between.trans {lo hi : Nat} {a b c : World} (h : Between lo hi a b) (k : Between lo hi b c) : Between lo hi a c :=
  ⟨k.os.trans h.os, k.tape.trans h.tape, k.output.trans h.output, Nat.le_trans h.size k.size, fun i hi ho => (k.block i (Nat.lt_of_lt_of_le hi h.size) ho).trans (h.block i hi ho)⟩
theorem Between.of_below {lo hi : Nat} {a b : World} (h : Below a.heap.size a b) : Between lo hi a b := ⟨h.os, h.tape, h.output, h.size, fun i hi _ => h.block i hi⟩
theorem Between.of_grown {lo hi : Nat} {a b : World} {row : Option Nat} (h : a.grownBy b row) (hr : ∀ g, row = some g → lo ≤ g ∧ g < hi) : Between lo hi a b :=
  ⟨h.os, h.tape, h.output, h.size, fun i hi ho => h.block i hi (fun e => by have := hr i e.symm; omega)⟩
theorem Between.below {lo hi : Nat} {a b : World} (h : Between lo hi a b) (hl : lo ≤ a.heap.size) : Below lo a b := ⟨h.os, h.tape, h.output, h.size, fun i hi => h.block i (by omega) (.inl hi)⟩
theorem Own.between {α : Type} {lo hi : Nat} {w w' : World} {base size : Nat} {e : TypeId} {vals : α → List Value} {v : Value} {xs : List α} (h : Own w base e size vals v xs) (b : Between lo hi w w') (hb : hi ≤ base) : Own w' base e size vals v xs := by
  refine ⟨h.1, ?_⟩
  rcases h.2 with h0 | ⟨g, cap, cur, hv, hbg, hg, r⟩
  · exact .inl h0
  · exact .inr ⟨g, cap, cur, hv, hbg, by rw [b.block g (Array.getElem?_eq_some_iff.1 hg).1 (.inr (by omega))]; exact hg, r⟩
/-- Rows of another kind of element lie elsewhere. -/
theorem own_other {α β : Type} {w w' : World} {b1 b2 s1 s2 : Nat} {e1 e2 : TypeId} {f1 : α → List Value} {f2 : β → List Value} {u v : Value} {xs : List α} {ys : List β} (hne : e1 ≠ e2) (h1 : Own w b1 e1 s1 f1 u xs) (h2 : Own w b2 e2 s2 f2 v ys) (hg : w.grownBy w' u.ownBlock) : Own w' b2 e2 s2 f2 v ys := by
  refine ⟨h2.1, ?_⟩
  rcases h2.2 with h0 | ⟨g, cap, cur, hv, hbg, hgg, r⟩
  · exact .inl h0
  · refine .inr ⟨g, cap, cur, hv, hbg, ?_, r⟩
    rw [hg.block g (Array.getElem?_eq_some_iff.1 hgg).1 ?_]
    · exact hgg
    intro e
    rcases h1.2 with ⟨rfl, -⟩ | ⟨g', cap', cur', rfl, -, hg', -⟩
    · simp [Value.ownBlock] at e
    · have e3 : g = g' := by simpa [Value.ownBlock] using e
      subst e3
      rw [hgg] at hg'
      injection hg' with hg'; injection hg' with _ hg'
      exact hne hg'.symm
set_option maxHeartbeats 1600000 in
theorem markNet_any (legs : List LegD) (off : List Int) (ch : Int) (l o : Value) (w : World) (lo : Nat) (ol : Own w lo 47 6 LegD.vals l legs) (oo : Own w lo 3 1 vI o off) (hl : lo ≤ w.heap.size) (hn : legs.length ≤ 1048576) (hm : off.length ≤ 1048576) (hi : Nat) (h1 : ∀ g, l.ownBlock = some g → g < hi) (h2 : ∀ g, o.ownBlock = some g → g < hi) :
    Calls Try.prog 11 #[.agg #[l, o, .int .i64 ch], .int .i64 1] w fun e w' => ∃ k : Int, e = .returned (.int .i64 k) ∧ 0 ≤ k ∧ Between lo hi w w' := by
  obtain ⟨A, c, rfl, -, -⟩ := ol.form
  obtain ⟨A', c', rfl, -, -⟩ := oo.form
  have l1 := fun g hg => World.ownsRow.lt ol g hg
  have l2 := fun g hg => World.ownsRow.lt oo g hg
  have H1 := Lib.hid (show ∀ g, (Value.slice A legs.length c).ownBlock = some g → (lo ≤ g ∧ g < hi) ∧ g < w.heap.size from fun g hg => ⟨⟨(l1 g hg).1, h1 g hg⟩, (l1 g hg).2⟩)
  have H2 := Lib.hid (show ∀ g, (Value.slice A' off.length c').ownBlock = some g → lo ≤ g ∧ g < hi from fun g hg => ⟨(l2 g hg).1, h2 g hg⟩)
  clear h1 h2
  clear l1 l2
  go_enter Try.func11, Try.ntmps11
  go_wp2_with fail
  obtain ⟨W, hW⟩ : ∃ W, W = w.alloc (.cells #[.slice A legs.length c, .slice A' off.length c', .int .i64 ch] 31) := ⟨_, rfl⟩
  rw [← hW]
  have x1 : W.cell? ⟨w.heap.size, 1, none⟩ = some (.slice A' off.length c') := by rw [hW]; simp [go_sem]
  have bW : Below w.heap.size w W := by rw [hW]; go_grown
  have zW : W.heap.size = w.heap.size + 1 := by rw [hW]; simp
  have olW := ol.keep bW (Nat.le_refl _)
  have ooW := oo.keep bW (Nat.le_refl _)
  clear hW ol oo
  refine (markLegs_any legs _ 1 lo _ olW (Nat.le_refl _) (by omega) (by omega)).mono ?_
  rintro e w1 ⟨rfl, g1⟩
  have t1 : Between lo hi w w1 := (Between.of_below bW).trans (Between.of_grown g1 (fun g hg => (H1.out g hg).1))
  have oo1 := own_other (by decide) olW ooW g1
  have hne : some w.heap.size ≠ (Value.slice A legs.length c).ownBlock := fun e => by have := (H1.out _ e.symm).2; omega
  have y1 : w1.cell? ⟨w.heap.size, 1, none⟩ = some (.slice A' off.length c') := (World.cell?_of_block (w := W) (g1.block w.heap.size (by omega) hne)).trans x1
  have z1 := g1.size
  clear x1 bW olW ooW g1 hne
  obtain ⟨z, hz⟩ : ∃ z : Int, z = ((1 + 6 * legs.length : Nat) : Int) := ⟨_, rfl⟩
  rw [← hz]
  have HM := markI_any off (.slice A' off.length c') (1 + 6 * legs.length) lo w1 oo1 (by omega) (by omega) (by omega)
  rw [← hz] at HM
  have hM2 : (0 : Int) ≤ ((1 + 6 * legs.length + off.length : Nat) : Int) := by omega
  have hM3 : ((1 + 6 * legs.length + off.length : Nat) : Int) ≤ 100000000 := by omega
  generalize ((1 + 6 * legs.length + off.length : Nat) : Int) = y at HM hM2 hM3
  clear hz
  go_wp2_with fail
  refine HM.mono ?_
  rintro e w2 ⟨rfl, -, g2⟩
  have t2 := t1.trans (Between.of_grown g2 (fun g hg => H2.out g hg))
  clear HM
  go_wp2_with fail
  go_ret
  exact ⟨_, rfl, hM2, t2⟩
end Go.Proofs.Ytdmeinfdldiegaa
