/- The statement of FnExactAmended, as a tied card: whatever the input, the law returns true and each argument reads afterwards as it read before. The condition: the listed package-level variables read as their initialisers lay them, which the card ties to the text. -/
import Derived.Test.YtpodbdmeamgpgaaDoorWExactAmended
import Derived.Test.YtpodbdmeamgpgaaDoorOpens
import Derived.Test.YtpodbdmeamgpgaaDoorHead
import Derived.Test.YtpodbdmeamgpgaaDoorDoor
import Derived.JoinedOf
namespace Go.Proofs.YtpodbdmeamgpgaaDoor.fnExactAmendedDone
open Go.RowKit Go.ChangeShapes Go.WideShapes Go.ChangeAt
set_option linter.unusedVariables false
set_option maxRecDepth 100000
theorem contract (H : Type) (enc : TypeId × Value → H) (W : World) (base : Nat) (args : Array Value) (ds gs : List (DataW H)) (before : List MemPlace)
    (hval0 : ∀ (j : Nat) t v, Tryd.f16.params[j]? = some t → args[j]? = some v → Value.okWide Tryd.prog W .any base t v)
    (hW : DataW.Whole enc Tryd.prog Tryd.f16.params.toList Rows.fnExactAmendedSpec.vars false W args.toList ds gs before) (hL : laidMetH Tryd.prog Rows.fnExactAmendedRow.laid W) :
    Calls Tryd.prog 16 args W fun e W' => ∃ v, e = .returned v ∧ Rows.fnExactAmendedSpec.post enc Tryd.prog Tryd.f16 false true false false W args v W' := by
  have hval : ∀ (j : Nat) t v, Tryd.f16.params[j]? = some t → args[j]? = some v → Value.okWide Tryd.prog W .any base t v := hval0
  have hW' := hW
  obtain ⟨p, q, hA0, hV, rfl, hfz, hnd⟩ := hW
  have hA : DataW.TrodAll enc Tryd.prog W 0 (fun _ => true) true Tryd.f16.params.toList args.toList ds p := hA0
  rw [Tryd.params16] at hA hval
  obtain ⟨v0, vs0, d0, ds0, p0, q0, hargs, rfl, rfl, h0, r0⟩ := trodAll_cons hA
  obtain ⟨rfl, rfl, rfl⟩ := trodAll_nil r0
  obtain rfl : args = #[v0] := by cases args; simp_all
  obtain ⟨rfl, rfl⟩ := trodVars_none hV
  have k0 := h0
  have lt0 : ∀ x ∈ p0, x.block < W.heap.size := by obtain ⟨m, hm⟩ := k0; exact DataW.trod_lt m _ _ _ hm
  have w0 := open_VStr (hval 0 9 v0 rfl rfl) h0
  clear hA0 hval0
  refine (walk_ExactAmended v0 W w0 (of_laid5 hL)).mono fun e W' ⟨he, bel⟩ => ?_
  subst he
  exact ⟨_, rfl, _, _, _, [], _, [], hW', trodAll_mk1 (shut_bool Tryd.underlying4 _), (trodAll_cons_mk (Below.trod laidOut (by kernel_rfl) (of_decide_eq_true (by kernel_rfl)) k0 bel lt0) trodAll_mk0), rfl, bel.frame _, fun h => by cases h⟩
noncomputable def start (os : Os) : World := World.doorLaid Tryd.prog 72 os
theorem laid_met (os : Os) : laidMetH Tryd.prog Rows.fnExactAmendedRow.laid ((start os).forCall (fun _ _ => 0) ⟨#[], #[.string ByteArray.empty], []⟩).memory :=
  laidMetH_of_parts3 (fuel := 8) (laidMet_of_run' 8 (by kernel_rfl) (by kernel_rfl)) (by kernel_rfl) (by kernel_rfl)
set_option maxRecDepth 100000 in
theorem lifted (os : Os) (started : os.Started) (H : Type) (enc : TypeId × Value → H) :
    ReturnsInHanded {} Tryd.checked os 16 .any (fun w args => (Rows.fnExactAmendedSpec.pre enc Tryd.prog Tryd.f16 Rows.fnExactAmendedRow.domain false w args ∧ laidMetH Tryd.prog Rows.fnExactAmendedRow.laid w) ∧ sizedMet enc Tryd.prog Tryd.f16 (OpenSpec.ofChange Rows.fnExactAmendedSpec) false w args) (Rows.fnExactAmendedSpec.post enc Tryd.prog Tryd.f16 false true false false) := by
  refine returnsInHanded_of_change_and (C := Tryd.checked) (X := fun w _ => laidMetH Tryd.prog Rows.fnExactAmendedRow.laid w) (fun _ _ _ hh h => h.of_heap hh) own started (by kernel_rfl) Tryd.func16
    (ChangeSpec.witness_shaped (enc := enc) (C := Tryd.checked) (os := os) (X := fun w _ => laidMetH Tryd.prog Rows.fnExactAmendedRow.laid w) false (start os) #[.string ByteArray.empty] 8 rfl (World.shaped_of_RefB (by kernel_rfl) (by kernel_rfl)) (by kernel_rfl) (by kernel_rfl) (by kernel_rfl) (laid_met os)) ?_
  intro W base args ds gs before hval hW _ _ hL _
  exact contract H enc W base args ds gs before hval hW hL
theorem closed : joinedFacts Tryd.pinned.checked.prog 16 Tryd.f16 Rows.fnExactAmendedSpec Rows.fnExactAmendedRow = true := by
  unfold joinedFacts
  rw [show Tryd.pinned.checked.prog = Tryd.prog from rfl, enter_ok, lift_ok, make_ok]
  kernel_rfl
theorem over : Rows.fnExactAmendedRow.holds Tryd.pinned (OpenSpec.ofChange Rows.fnExactAmendedSpec) :=
  OpenClaim.holds_of_wide 16 Tryd.f16 rfl rfl rfl rfl rfl rfl rfl ⟨rfl, rfl, rfl, rfl, rfl⟩ rfl rfl rfl rfl rfl (by kernel_rfl) Tryd.func16 closed
    (of_decide_eq_true (by kernel_rfl)) (by unfold Func.isWrapper; first | (rw [if_pos (by decide +kernel)]; kernel_rfl) | (rw [if_neg (by decide +kernel)]; exact ⟨rfl, rfl⟩))
    (fun os started H enc _ => lifted os started H enc)
theorem plain (f : FuncId) (fn : Func) (hf : Tryd.pinned.checked.prog.funcNamed "loop.example/g03014/laws.FnExactAmended" = some f) (hfn : Tryd.pinned.checked.prog.funcs[f]? = some fn) :
    true = Tryd.pinned.checked.prog.looks [] ∧ ∀ (j : Nat) t, fn.params[j]? = some t → Tryd.pinned.checked.prog.wantsStandIn t = false := by
  obtain rfl : f = 16 := Option.some.inj ((show Tryd.prog.funcNamed "loop.example/g03014/laws.FnExactAmended" = some 16 by kernel_rfl).symm.trans hf) |>.symm
  obtain rfl : fn = Tryd.f16 := (Option.some.inj (Tryd.func16.symm.trans hfn)).symm
  refine ⟨by kernel_rfl, fun j t ht => ?_⟩
  rw [Tryd.params16] at ht
  have hm : t ∈ [9] := by simpa using Array.mem_of_getElem? ht
  have hall : ([9].all fun u => !Tryd.prog.wantsStandIn u) = true := by kernel_rfl
  exact (show Tryd.prog.wantsStandIn t = false by simpa using List.all_eq_true.1 hall t hm)
end Go.Proofs.YtpodbdmeamgpgaaDoor.fnExactAmendedDone
namespace Go.Proofs.YtpodbdmeamgpgaaDoor
theorem fnExactAmended_wf : Rows.fnExactAmendedRow.wfByText (OpenSpec.ofChange Rows.fnExactAmendedSpec) = true := by kernel_rfl
theorem fnExactAmended_goes : false = Rows.fnExactAmendedRow.goesBy Tryd.pinned.checked.prog := by kernel_rfl
/-- The statement. -/
theorem fnExactAmended_holds : Rows.FnExactAmendedCardSaid :=
  Claim7.holds_tied_plain_at .later [] _ _ _ _ fnExactAmendedDone.over (fun _ h => by cases h) fnExactAmended_wf (fun _ h => by cases h) fnExactAmended_row_tie rfl ⟨rfl, rfl⟩ main_ok rfl fnExactAmendedDone.plain fnExactAmended_goes
end Go.Proofs.YtpodbdmeamgpgaaDoor
#print axioms Go.Proofs.YtpodbdmeamgpgaaDoor.fnExactAmended_holds
