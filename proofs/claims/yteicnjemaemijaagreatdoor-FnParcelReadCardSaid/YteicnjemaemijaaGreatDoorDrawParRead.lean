/- What the reference's draw of a parcel for reading answers, and how the law compares lists of numbers. No condition. -/
import Derived.Test.YteicnjemaemijaaGreatDoorDrawAny
namespace Go.Proofs.YteicnjemaemijaaGreatDoor
open Go.RowKit Go.PlainAid
set_option maxRecDepth 100000
set_option linter.unusedVariables false
theorem Saves.belDF {C : Nat} {a b : World} (h : Saves C a b) {w : World} (h0 : Below w.heap.size w a) (h1 : w.heap.size ≤ C) : Below w.heap.size w b := h0.trans (h.below h1 h0.size)
def ParDF (w : World) (e : Ending) (w' : World) : Prop := ∃ (a b : Int) (t f : ByteArray) (wt : Int) (A : Option Addr) (c : Nat) (xs : List Int) (vl : Int), e = .returned (.agg #[.int .i64 a, .int .i64 b, .string t, .string f, .int .i64 wt, .slice A xs.length c, .int .i64 vl]) ∧
  okI a ∧ okI b ∧ t.size ≤ maxLen ∧ f.size ≤ maxLen ∧ okI wt ∧ SliceOf w' 1 vI (.slice A xs.length c) xs ∧ (∀ x ∈ xs, okI x) ∧ xs.length ≤ 4 ∧ okI vl ∧ Below w.heap.size w w'
set_option maxHeartbeats 1600000 in
theorem drawFormatPar_any (cs : List Int) (v : Value) (w : World) (h : SliceOf w 1 vB v cs) : Calls Tryz.prog 11 #[v] w (ParDF w) := by
  obtain ⟨A0, c0, rfl, hle, hm⟩ := h.form
  go_enter Tryz.func11, Tryz.ntmps11
  go_wp2_with fail
  obtain ⟨W, hW⟩ : ∃ W, W = w.alloc (.cells #[.int .i64 0, .int .i64 0, .string ⟨#[]⟩, .string ⟨#[]⟩, .int .i64 0, .slice none 0 0, .int .i64 0] 26) := ⟨_, rfl⟩
  rw [← hW]
  have P : Box W w.heap.size 26 #[.int .i64 0, .int .i64 0, .string ⟨#[]⟩, .string ⟨#[]⟩, .int .i64 0, .slice none 0 0, .int .i64 0] := by rw [hW]; exact Box.new _ _ _
  have bW : Below w.heap.size w W := by rw [hW]; go_grown
  have zW : W.heap.size = w.heap.size + 1 := by rw [hW]; simp
  clear hW
  refine (new_any cs _ _ (h.keep bW (Nat.le_refl _))).mono ?_
  rintro e w1 ⟨C, hC, rfl, c1, b1⟩
  replace P := P.keep b1
  have B1 := chain bW b1
  have lP := P.lt
  go_wp2_with fail
  refine (anyParcel_any C _ c1).mono ?_
  rintro e w2 ⟨a, b, t, f, wt, A, c, xs, vl, rfl, oa, ob, ot, of, ow, sx, hA, ox, hl4, ov, c2, s2⟩
  replace P := P.saves s2 (by omega)
  have B2 := s2.belDF B1 (by omega)
  have p0 : w2.cell? ⟨w.heap.size, 0, none⟩ = some (.int .i64 0) := P.cell 0
  have p1 : w2.cell? ⟨w.heap.size, 1, none⟩ = some (.int .i64 0) := P.cell 1
  have p2 : w2.cell? ⟨w.heap.size, 2, none⟩ = some (.string ⟨#[]⟩) := P.cell 2
  have p3 : w2.cell? ⟨w.heap.size, 3, none⟩ = some (.string ⟨#[]⟩) := P.cell 3
  have p4 : w2.cell? ⟨w.heap.size, 4, none⟩ = some (.int .i64 0) := P.cell 4
  have p5 : w2.cell? ⟨w.heap.size, 5, none⟩ = some (.slice none 0 0) := P.cell 5
  have p6 : w2.cell? ⟨w.heap.size, 6, none⟩ = some (.int .i64 0) := P.cell 6
  have pf : ∀ j, w2.frozen? ⟨w.heap.size, j, none⟩ = false := fun j => P.frozen j
  have hA2 : ∀ bb off, A = some ⟨bb, off, none⟩ → bb ≠ w.heap.size := fun bb off e => by have := hA bb off e; omega
  go_wp2_with fail
  refine bodyPost_ret (v := .agg #[.int .i64 a, .int .i64 b, .string t, .string f, .int .i64 wt, .slice A xs.length c, .int .i64 vl]) (by simp [results, Tryz.results11, go_sem, p0, p1, p2, p3, p4, p5, p6]) rfl ⟨_, _, _, _, _, A, c, xs, _, rfl, oa, ob, ot, of, ow, ?_, ox, hl4, ov, ?_⟩
  · repeat' (first | with_reducible exact sx | with_reducible refine slice_set ?_ ?_ _ | exact hA2)
  · repeat' (first | with_reducible exact B2 | with_reducible refine Below.setCell ?_ ?_ _ | (simp only; omega))
set_option maxHeartbeats 1600000 in
theorem ints_same (xs : List Int) (u v : Value) (w : World) (hu : SliceOf w 1 vI u xs) (hv : SliceOf w 1 vI v xs) : Calls Tryz.prog 16 #[u, v] w fun e w' => e = .returned (.bool true) ∧ Below w.heap.size w w' := by
  obtain ⟨A, c, rfl, hl, hm⟩ := hu.form
  obtain ⟨A', c', rfl, hl', hm'⟩ := hv.form
  unfold maxLen at hm hm'
  go_enter Tryz.func16, Tryz.ntmps16
  go_wp2_with fail
  go_loopw [5] (fun i wr => ∃ k : Nat, k ≤ xs.length ∧ i = .int .i64 k ∧ Below w.heap.size w wr) (fun i _ => xs.length - (intOf i).toNat)
  case atStart => exact ⟨0, Nat.zero_le _, rfl, Below.refl _ _⟩
  case round =>
    obtain ⟨k, hk, rfl, hB⟩ := hrel
    by_cases hlt : k < xs.length
    · obtain ⟨b_, off_, x, rfl, hb_, hx, hcell⟩ := hu.cells hlt
      obtain ⟨b', off', y, rfl, hb', hy, hcell'⟩ := hv.cells hlt
      have hxy : y = x := Option.some.inj (hy.out.symm.trans hx.out)
      rw [hxy] at hcell'
      have d : w.cell? ⟨b_, off_ + k, none⟩ = some (.int .i64 x) := by simpa using hcell 0 _ rfl
      have d' : w.cell? ⟨b', off' + k, none⟩ = some (.int .i64 x) := by simpa using hcell' 0 _ rfl
      replace d := (hB.cell (p := ⟨b_, off_ + k, none⟩) hb_).trans d
      replace d' := (hB.cell (p := ⟨b', off' + k, none⟩) hb').trans d'
      clear hxy hcell hcell' hx hy
      have k0 : (0 : Int) ≤ (k : Int) := by omega
      have k1 : (k : Int) < (xs.length : Int) := by omega
      go_wp2_with fail
      go_quiet (fail)
      go_wp2_with fail
      go_roundw
      case rel => exact ⟨k + 1, by omega, by go_num, below_drewN hB _⟩
      case measure => simp [intOf]; omega
    · obtain rfl : k = xs.length := by omega
      go_wp2_with fail
      go_ret
      exact ⟨rfl, hB⟩
end Go.Proofs.YteicnjemaemijaaGreatDoor
