/- The statement of FnAmended, as a tied card: whatever the input, the law returns true and each argument reads afterwards as it read before. The condition: the listed package-level variables read as their initialisers lay them, which the card ties to the text. -/
import Derived.Test.YtpodbdmeamgpgaaDoorWAmended
import Derived.Test.YtpodbdmeamgpgaaDoorOpens
import Derived.Test.YtpodbdmeamgpgaaDoorHead
import Derived.Test.YtpodbdmeamgpgaaDoorDoor
import Derived.JoinedOf
namespace Go.Proofs.YtpodbdmeamgpgaaDoor.fnAmendedDone
open Go.RowKit Go.ChangeShapes Go.WideShapes Go.ChangeAt
set_option linter.unusedVariables false
set_option maxRecDepth 100000
theorem contract (H : Type) (enc : TypeId × Value → H) (W : World) (base : Nat) (args : Array Value) (ds gs : List (DataW H)) (before : List MemPlace)
    (hval0 : ∀ (j : Nat) t v, Tryd.f17.params[j]? = some t → args[j]? = some v → Value.okWide Tryd.prog W .any base t v)
    (hW : DataW.Whole enc Tryd.prog Tryd.f17.params.toList Rows.fnAmendedSpec.vars false W args.toList ds gs before) (hL : laidMetH Tryd.prog Rows.fnAmendedRow.laid W) :
    Calls Tryd.prog 17 args W fun e W' => ∃ v, e = .returned v ∧ Rows.fnAmendedSpec.post enc Tryd.prog Tryd.f17 false true false false W args v W' := by
  have hval : ∀ (j : Nat) t v, Tryd.f17.params[j]? = some t → args[j]? = some v → Value.okWide Tryd.prog W .any base t v := hval0
  have hW' := hW
  obtain ⟨p, q, hA0, hV, rfl, hfz, hnd⟩ := hW
  have hA : DataW.TrodAll enc Tryd.prog W 0 (fun _ => true) true Tryd.f17.params.toList args.toList ds p := hA0
  rw [Tryd.params17] at hA hval
  obtain ⟨v0, vs0, d0, ds0, p0, q0, hargs, rfl, rfl, h0, r0⟩ := trodAll_cons hA
  obtain ⟨rfl, rfl, rfl⟩ := trodAll_nil r0
  obtain rfl : args = #[v0] := by cases args; simp_all
  obtain ⟨rfl, rfl⟩ := trodVars_none hV
  have k0 := h0
  have lt0 : ∀ x ∈ p0, x.block < W.heap.size := by obtain ⟨m, hm⟩ := k0; exact DataW.trod_lt m _ _ _ hm
  have w0 := open_VBytes (hval 0 44 v0 rfl rfl) h0
  clear hA0 hval0
  refine (walk_Amended v0 W w0 (of_laid5 hL)).mono fun e W' ⟨he, bel⟩ => ?_
  subst he
  exact ⟨_, rfl, _, _, _, [], _, [], hW', trodAll_mk1 (shut_bool Tryd.underlying4 _), (trodAll_cons_mk (Below.trod laidOut (by kernel_rfl) (of_decide_eq_true (by kernel_rfl)) k0 bel lt0) trodAll_mk0), rfl, bel.frame _, fun h => by cases h⟩
noncomputable def start (os : Os) : World := World.doorLaid Tryd.prog 72 os
theorem laid_met (os : Os) : laidMetH Tryd.prog Rows.fnAmendedRow.laid ((start os).forCall (fun _ _ => 0) ⟨#[], #[.slice none 0 0], []⟩).memory :=
  laidMetH_of_parts3 (fuel := 8) (laidMet_of_run' 8 (by kernel_rfl) (by kernel_rfl)) (by kernel_rfl) (by kernel_rfl)
set_option maxRecDepth 100000 in
theorem lifted (os : Os) (started : os.Started) (H : Type) (enc : TypeId × Value → H) :
    ReturnsInHanded {} Tryd.checked os 17 .any (fun w args => (Rows.fnAmendedSpec.pre enc Tryd.prog Tryd.f17 Rows.fnAmendedRow.domain false w args ∧ laidMetH Tryd.prog Rows.fnAmendedRow.laid w) ∧ sizedMet enc Tryd.prog Tryd.f17 (OpenSpec.ofChange Rows.fnAmendedSpec) false w args) (Rows.fnAmendedSpec.post enc Tryd.prog Tryd.f17 false true false false) := by
  refine returnsInHanded_of_change_and (C := Tryd.checked) (X := fun w _ => laidMetH Tryd.prog Rows.fnAmendedRow.laid w) (fun _ _ _ hh h => h.of_heap hh) own started (by kernel_rfl) Tryd.func17
    (ChangeSpec.witness_shaped (enc := enc) (C := Tryd.checked) (os := os) (X := fun w _ => laidMetH Tryd.prog Rows.fnAmendedRow.laid w) false (start os) #[.slice none 0 0] 8 rfl (World.shaped_of_RefB (by kernel_rfl) (by kernel_rfl)) (by kernel_rfl) (by kernel_rfl) (by kernel_rfl) (laid_met os)) ?_
  intro W base args ds gs before hval hW _ _ hL _
  exact contract H enc W base args ds gs before hval hW hL
theorem closed : joinedFacts Tryd.pinned.checked.prog 17 Tryd.f17 Rows.fnAmendedSpec Rows.fnAmendedRow = true := by
  unfold joinedFacts
  rw [show Tryd.pinned.checked.prog = Tryd.prog from rfl, enter_ok, lift_ok, make_ok]
  kernel_rfl
theorem over : Rows.fnAmendedRow.holds Tryd.pinned (OpenSpec.ofChange Rows.fnAmendedSpec) :=
  OpenClaim.holds_of_wide 17 Tryd.f17 rfl rfl rfl rfl rfl rfl rfl ⟨rfl, rfl, rfl, rfl, rfl⟩ rfl rfl rfl rfl rfl (by kernel_rfl) Tryd.func17 closed
    (of_decide_eq_true (by kernel_rfl)) (by unfold Func.isWrapper; first | (rw [if_pos (by decide +kernel)]; kernel_rfl) | (rw [if_neg (by decide +kernel)]; exact ⟨rfl, rfl⟩))
    (fun os started H enc _ => lifted os started H enc)
theorem plain (f : FuncId) (fn : Func) (hf : Tryd.pinned.checked.prog.funcNamed "loop.example/g03014/laws.FnAmended" = some f) (hfn : Tryd.pinned.checked.prog.funcs[f]? = some fn) :
    true = Tryd.pinned.checked.prog.looks [] ∧ ∀ (j : Nat) t, fn.params[j]? = some t → Tryd.pinned.checked.prog.wantsStandIn t = false := by
  obtain rfl : f = 17 := Option.some.inj ((show Tryd.prog.funcNamed "loop.example/g03014/laws.FnAmended" = some 17 by kernel_rfl).symm.trans hf) |>.symm
  obtain rfl : fn = Tryd.f17 := (Option.some.inj (Tryd.func17.symm.trans hfn)).symm
  refine ⟨by kernel_rfl, fun j t ht => ?_⟩
  rw [Tryd.params17] at ht
  have hm : t ∈ [44] := by simpa using Array.mem_of_getElem? ht
  have hall : ([44].all fun u => !Tryd.prog.wantsStandIn u) = true := by kernel_rfl
  exact (show Tryd.prog.wantsStandIn t = false by simpa using List.all_eq_true.1 hall t hm)
end Go.Proofs.YtpodbdmeamgpgaaDoor.fnAmendedDone
namespace Go.Proofs.YtpodbdmeamgpgaaDoor
theorem fnAmended_wf : Rows.fnAmendedRow.wfByText (OpenSpec.ofChange Rows.fnAmendedSpec) = true := by kernel_rfl
theorem fnAmended_goes : false = Rows.fnAmendedRow.goesBy Tryd.pinned.checked.prog := by kernel_rfl
/-- The statement. -/
theorem fnAmended_holds : Rows.FnAmendedCardSaid :=
  Claim7.holds_tied_plain_at .later [] _ _ _ _ fnAmendedDone.over (fun _ h => by cases h) fnAmended_wf (fun _ h => by cases h) fnAmended_row_tie rfl ⟨rfl, rfl⟩ main_ok rfl fnAmendedDone.plain fnAmended_goes
end Go.Proofs.YtpodbdmeamgpgaaDoor
#print axioms Go.Proofs.YtpodbdmeamgpgaaDoor.fnAmended_holds
