/- The statement of FnExactFormatParcel, as a tied card: whatever the input, the law returns true and each argument reads afterwards as it read before. The condition: the listed package-level variables read as their initialisers lay them, which the card ties to the text. -/
import Derived.Test.YteicnjemaemijaaDoorWExactFormatParcel
import Derived.Test.YteicnjemaemijaaDoorOpens
import Derived.Test.YteicnjemaemijaaDoorHead
import Derived.Test.YteicnjemaemijaaDoorDoor
import Derived.JoinedOf
namespace Go.Proofs.YteicnjemaemijaaDoor.fnExactFormatParcelDone
open Go.RowKit Go.ChangeShapes Go.WideShapes Go.ChangeAt
set_option linter.unusedVariables false
set_option maxRecDepth 100000
theorem contract (H : Type) (enc : TypeId × Value → H) (W : World) (base : Nat) (args : Array Value) (ds gs : List (DataW H)) (before : List MemPlace)
    (hval0 : ∀ (j : Nat) t v, Tryd.f3.params[j]? = some t → args[j]? = some v → Value.okWide Tryd.prog W .any base t v)
    (hW : DataW.Whole enc Tryd.prog Tryd.f3.params.toList Rows.fnExactFormatParcelSpec.vars false W args.toList ds gs before) (hL : laidMetH Tryd.prog Rows.fnExactFormatParcelRow.laid W) :
    Calls Tryd.prog 3 args W fun e W' => ∃ v, e = .returned v ∧ Rows.fnExactFormatParcelSpec.post enc Tryd.prog Tryd.f3 false true false false W args v W' := by
  have hval : ∀ (j : Nat) t v, Tryd.f3.params[j]? = some t → args[j]? = some v → Value.okWide Tryd.prog W .any base t v := hval0
  have hW' := hW
  obtain ⟨p, q, hA0, hV, rfl, hfz, hnd⟩ := hW
  have hA : DataW.TrodAll enc Tryd.prog W 0 (fun _ => true) true Tryd.f3.params.toList args.toList ds p := hA0
  rw [Tryd.params3] at hA hval
  obtain ⟨v0, vs0, d0, ds0, p0, q0, hargs, rfl, rfl, h0, r0⟩ := trodAll_cons hA
  obtain ⟨rfl, rfl, rfl⟩ := trodAll_nil r0
  obtain rfl : args = #[v0] := by cases args; simp_all
  obtain ⟨rfl, rfl⟩ := trodVars_none hV
  have k0 := h0
  have lt0 : ∀ x ∈ p0, x.block < W.heap.size := by obtain ⟨m, hm⟩ := k0; exact DataW.trod_lt m _ _ _ hm
  have w0 := open_VParcel (hval 0 26 v0 rfl rfl) h0
  clear hA0 hval0
  refine (walk_ExactFormatParcel v0 W w0 (of_laidP hL)).mono fun e W' ⟨he, bel⟩ => ?_
  subst he
  exact ⟨_, rfl, _, _, _, [], _, [], hW', trodAll_mk1 (shut_bool Tryd.underlying4 _), (trodAll_cons_mk (Below.trod laidOut (by kernel_rfl) (of_decide_eq_true (by kernel_rfl)) k0 bel lt0) trodAll_mk0), rfl, bel.frame _, fun h => by cases h⟩
noncomputable def start (os : Os) : World := World.doorLaid Tryd.prog 72 os
theorem laid_met (os : Os) : laidMetH Tryd.prog Rows.fnExactFormatParcelRow.laid ((start os).forCall (fun _ _ => 0) ⟨#[], #[.agg #[.int .i64 0, .int .i64 0, .string ByteArray.empty, .string ByteArray.empty, .int .i64 0, .slice none 0 0, .int .i64 0]], []⟩).memory :=
  laidMetH_of_parts3 (fuel := 8) (laidMet_of_run' 8 (by kernel_rfl) (by kernel_rfl)) (by kernel_rfl) (by kernel_rfl)
set_option maxRecDepth 100000 in
theorem lifted (os : Os) (started : os.Started) (H : Type) (enc : TypeId × Value → H) :
    ReturnsInHanded {} Tryd.checked os 3 .any (fun w args => (Rows.fnExactFormatParcelSpec.pre enc Tryd.prog Tryd.f3 Rows.fnExactFormatParcelRow.domain false w args ∧ laidMetH Tryd.prog Rows.fnExactFormatParcelRow.laid w) ∧ sizedMet enc Tryd.prog Tryd.f3 (OpenSpec.ofChange Rows.fnExactFormatParcelSpec) false w args) (Rows.fnExactFormatParcelSpec.post enc Tryd.prog Tryd.f3 false true false false) := by
  refine returnsInHanded_of_change_and (C := Tryd.checked) (X := fun w _ => laidMetH Tryd.prog Rows.fnExactFormatParcelRow.laid w) (fun _ _ _ hh h => h.of_heap hh) own started (by kernel_rfl) Tryd.func3
    (ChangeSpec.witness_shaped (enc := enc) (C := Tryd.checked) (os := os) (X := fun w _ => laidMetH Tryd.prog Rows.fnExactFormatParcelRow.laid w) false (start os) #[.agg #[.int .i64 0, .int .i64 0, .string ByteArray.empty, .string ByteArray.empty, .int .i64 0, .slice none 0 0, .int .i64 0]] 8 rfl (World.shaped_of_RefB (by kernel_rfl) (by kernel_rfl)) (by kernel_rfl) (by kernel_rfl) (by kernel_rfl) (laid_met os)) ?_
  intro W base args ds gs before hval hW _ _ hL _
  exact contract H enc W base args ds gs before hval hW hL
theorem closed : joinedFacts Tryd.pinned.checked.prog 3 Tryd.f3 Rows.fnExactFormatParcelSpec Rows.fnExactFormatParcelRow = true := by
  unfold joinedFacts
  rw [show Tryd.pinned.checked.prog = Tryd.prog from rfl, enter_ok, lift_ok, make_ok]
  kernel_rfl
theorem over : Rows.fnExactFormatParcelRow.holds Tryd.pinned (OpenSpec.ofChange Rows.fnExactFormatParcelSpec) :=
  OpenClaim.holds_of_wide 3 Tryd.f3 rfl rfl rfl rfl rfl rfl rfl ⟨rfl, rfl, rfl, rfl, rfl⟩ rfl rfl rfl rfl rfl (by kernel_rfl) Tryd.func3 closed
    (of_decide_eq_true (by kernel_rfl)) (by unfold Func.isWrapper; first | (rw [if_pos (by decide +kernel)]; kernel_rfl) | (rw [if_neg (by decide +kernel)]; exact ⟨rfl, rfl⟩))
    (fun os started H enc _ => lifted os started H enc)
theorem plain (f : FuncId) (fn : Func) (hf : Tryd.pinned.checked.prog.funcNamed "loop.example/g03014/laws.FnExactFormatParcel" = some f) (hfn : Tryd.pinned.checked.prog.funcs[f]? = some fn) :
    false = Tryd.pinned.checked.prog.looks [] ∧ ∀ (j : Nat) t, fn.params[j]? = some t → Tryd.pinned.checked.prog.wantsStandIn t = false := by
  obtain rfl : f = 3 := Option.some.inj ((show Tryd.prog.funcNamed "loop.example/g03014/laws.FnExactFormatParcel" = some 3 by kernel_rfl).symm.trans hf) |>.symm
  obtain rfl : fn = Tryd.f3 := (Option.some.inj (Tryd.func3.symm.trans hfn)).symm
  refine ⟨by kernel_rfl, fun j t ht => ?_⟩
  rw [Tryd.params3] at ht
  have hm : t ∈ [26] := by simpa using Array.mem_of_getElem? ht
  have hall : ([26].all fun u => !Tryd.prog.wantsStandIn u) = true := by kernel_rfl
  exact (show Tryd.prog.wantsStandIn t = false by simpa using List.all_eq_true.1 hall t hm)
end Go.Proofs.YteicnjemaemijaaDoor.fnExactFormatParcelDone
namespace Go.Proofs.YteicnjemaemijaaDoor
theorem fnExactFormatParcel_wf : Rows.fnExactFormatParcelRow.wfByText (OpenSpec.ofChange Rows.fnExactFormatParcelSpec) = true := by kernel_rfl
theorem fnExactFormatParcel_goes : false = Rows.fnExactFormatParcelRow.goesBy Tryd.pinned.checked.prog := by kernel_rfl
/-- The statement. -/
theorem fnExactFormatParcel_holds : Rows.FnExactFormatParcelCardSaid :=
  Claim7.holds_tied_plain_at .later [] _ _ _ _ fnExactFormatParcelDone.over (fun _ h => by cases h) fnExactFormatParcel_wf (fun _ h => by cases h) fnExactFormatParcel_row_tie rfl ⟨rfl, rfl⟩ main_ok rfl fnExactFormatParcelDone.plain fnExactFormatParcel_goes
end Go.Proofs.YteicnjemaemijaaDoor
#print axioms Go.Proofs.YteicnjemaemijaaDoor.fnExactFormatParcel_holds
