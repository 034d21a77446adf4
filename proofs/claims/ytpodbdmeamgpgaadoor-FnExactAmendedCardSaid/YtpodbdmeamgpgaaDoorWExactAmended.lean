/- The law FnExactAmended walked: it returns true. No condition. -/
import Derived.Test.YtpodbdmeamgpgaaDoorStrS
import Derived.Test.YtpodbdmeamgpgaaDoorAmendedS
namespace Go.Proofs.YtpodbdmeamgpgaaDoor
open Go.RowKit Go.PlainAid
set_option maxRecDepth 100000
set_option linter.unusedVariables false
theorem Own.grown {α : Type} {w w' : World} {B size : Nat} {e : TypeId} {vals : α → List Value} {v : Value} {xs : List α} (h : Own w B e size vals v xs) (hg : w.grownBy w' v.ownBlock) (hB : B ≤ w.heap.size) : Below B w w' :=
  ⟨hg.os, hg.tape, hg.output, hg.size, fun k hk => hg.block k (by omega) (by intro q; have := (World.ownsRow.lt h k q.symm).1; omega)⟩
set_option maxHeartbeats 4000000 in
theorem walk_ExactAmended (v0 : Value) (w : World) (h0 : VStr v0) (ht : Errs w) : Calls Tryd.prog 16 #[v0] w fun e w' => e = .returned (.bool true) ∧ Below w.heap.size w w' := by
  obtain ⟨s, rfl, hs⟩ := h0
  unfold maxLen at hs
  by_cases hb : (s.size : Int) ≤ 1048576
  · have CS := Lib.hid (fun W (hT : Tabs W) => amS s W (by omega) hT)
    have CI := (fun W (hT : Errs W) => amI s W (by omega) hT)
    rw [am_same s] at CI
    have HI := Lib.hid CI; clear CI
    have hlen := am_len chrS 36 (by omega) s
    generalize amL chrS 36 s = L at CS HI hlen
    obtain ⟨M, hM⟩ : ∃ M : Int, M = ((1 + L.length : Nat) : Int) := ⟨_, rfl⟩
    have m0 : ¬ M < 0 := by omega
    have mk : ∀ (W : World) (base : Nat) (v : Value), Own W base 9 1 vS v L → base ≤ W.heap.size → Calls Tryd.prog 53 #[v, .int .i64 1] W fun e w' => e = .returned (.int .i64 M) ∧ Own w' base 9 1 vS v (marks 1 L.length) ∧ W.grownBy w' v.ownBlock :=
      fun W base v h hB => by rw [hM]; exact markS_any L v 1 base W h (by omega) (by omega) hB
    have hd : ∀ (W : World) (v : Value), SliceOf W 1 vS v (marks 1 L.length) → Calls Tryd.prog 54 #[v, .int .i64 1] W fun e w' => e = .returned (.int .i64 M) ∧ Below W.heap.size W w' :=
      fun W v h => by rw [hM]; exact heldS_any L.length v 1 W h (by omega) (by omega)
    have HMK := Lib.hid mk; clear mk
    have HHD := Lib.hid hd; clear hd hM hlen
    go_enter Tryd.func16, Tryd.ntmps16
    go_wp2_with fail
    refine (CS.out _ ht.1).mono ?_
    rintro e w1 ⟨v1, rfl, o1, b1⟩
    have T1 := ht.keep b1
    go_wp2_with fail
    refine (HI.out _ T1).mono ?_
    rintro e w2 ⟨v2, rfl, o2, b2⟩
    have T2 := T1.keep b2
    have p1 := o1.keep b2 (Nat.le_refl _)
    have B2 := chain b1 b2
    go_wp2_with fail
    refine (eqS_same L v2 v1 _ (o2.slice vS_len (by omega)) (p1.slice vS_len (by omega))).mono ?_
    rintro e w3 ⟨rfl, b3⟩
    have T3 := T2.keep b3
    have q2 := o2.keep b3 (Nat.le_refl _)
    have z1 := b1.size
    have z2 := b2.size
    have z3 := b3.size
    go_wp2_with fail
    refine (HMK.out _ _ v2 q2 (by omega)).mono ?_
    rintro e w4 ⟨rfl, o4, g4⟩
    have b4 := q2.grown g4 (by omega)
    clear g4
    have c4 := (chain b2 b3).trans b4
    have z4 := b4.size
    have T4 := T3.below b4 T1.lt.1 T1.lt.2.1 T1.lt.2.2
    have r1 := o1.keep c4 (Nat.le_refl _)
    clear p1 o1 o2 q2 b2 b3 b4 T2 T3
    go_wp2_with fail
    refine (HHD.out _ v2 (o4.slice vS_len (by omega))).mono ?_
    rintro e w5 ⟨rfl, b5⟩
    have T5 := T4.keep b5
    have C5 := chain c4 b5
    have o5 := o4.keep b5 (Nat.le_refl _)
    have r5 := r1.keep b5 (Nat.le_refl _)
    clear o4 r1 T4 c4
    go_wp2_with fail
    refine (HI.out _ T5).mono ?_
    rintro e w6 ⟨v3, rfl, o6, b6⟩
    have C6 := chain C5 b6
    have o5' := o5.keep b6 (Nat.le_refl _)
    have r6 := r5.keep b6 (Nat.le_refl _)
    clear o5 r5 T5 C5
    go_wp2_with fail
    refine (eqS_same L v3 v1 _ (o6.slice vS_len (by omega)) (r6.slice vS_len (by omega))).mono ?_
    rintro e w7 ⟨rfl, b7⟩
    have C7 := chain C6 b7
    have o7 := o5'.keep b7 (Nat.le_refl _)
    clear o5' C6
    go_wp2_with fail
    refine (HHD.out _ v2 (o7.slice vS_len (by omega))).mono ?_
    rintro e w8 ⟨rfl, b8⟩
    have C8 := chain b1 (chain C7 b8)
    clear C7 o7 o6
    go_wp2_with fail
    go_ret
    exact ⟨rfl, C8⟩
  · go_enter Tryd.func16, Tryd.ntmps16
    go_wp2_with fail
    go_ret
    exact ⟨rfl, Below.refl _ _⟩
end Go.Proofs.YtpodbdmeamgpgaaDoor
