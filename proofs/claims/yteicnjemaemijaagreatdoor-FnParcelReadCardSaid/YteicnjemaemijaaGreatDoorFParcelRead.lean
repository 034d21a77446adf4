/- The statement of FnParcelRead, as a tied card: whatever the input, the law returns true and each argument reads afterwards as it read before. The condition: the listed package-level variables read as their initialisers lay them, which the card ties to the text. -/
import Derived.Test.YteicnjemaemijaaGreatDoorWParcelRead
import Derived.Test.YteicnjemaemijaaGreatDoorOpens
import Derived.Test.YteicnjemaemijaaGreatDoorHead
import Derived.Test.YteicnjemaemijaaGreatDoorDoor
import Derived.JoinedOf
import Derived.Lay
namespace Go.Proofs.YteicnjemaemijaaGreatDoor.fnParcelReadDone
open Go.RowKit Go.ChangeShapes Go.WideShapes Go.ChangeAt
set_option linter.unusedVariables false
set_option maxRecDepth 100000
theorem contract (H : Type) (enc : TypeId × Value → H) (W : World) (base : Nat) (args : Array Value) (ds gs : List (DataW H)) (before : List MemPlace)
    (hval0 : ∀ (j : Nat) t v, Tryz.f4.params[j]? = some t → args[j]? = some v → Value.okWide Tryz.prog W .any base t v)
    (hW : DataW.Whole enc Tryz.prog Tryz.f4.params.toList Rows.fnParcelReadSpec.vars false W args.toList ds gs before) (hL : laidMetH Tryz.prog Rows.fnParcelReadRow.laid W) (hsh : W.ShapedOpen Tryz.prog) :
    Calls Tryz.prog 4 args W fun e W' => ∃ v, e = .returned v ∧ Rows.fnParcelReadSpec.post enc Tryz.prog Tryz.f4 false true false false W args v W' := by
  have hval : ∀ (j : Nat) t v, Tryz.f4.params[j]? = some t → args[j]? = some v → Value.okWide Tryz.prog W .any base t v := hval0
  have hW' := hW
  obtain ⟨p, q, hA0, hV, rfl, hfz, hnd⟩ := hW
  have hA : DataW.TrodAll enc Tryz.prog W 0 (fun _ => true) true Tryz.f4.params.toList args.toList ds p := hA0
  rw [Tryz.params4] at hA hval
  obtain ⟨v0, vs0, d0, ds0, p0, q0, hargs, rfl, rfl, h0, r0⟩ := trodAll_cons hA
  obtain ⟨rfl, rfl, rfl⟩ := trodAll_nil r0
  obtain rfl : args = #[v0] := by cases args; simp_all
  obtain ⟨rfl, rfl⟩ := trodVars_none hV
  have k0 := h0
  have lt0 : ∀ x ∈ p0, x.block < W.heap.size := by obtain ⟨m, hm⟩ := k0; exact DataW.trod_lt m _ _ _ hm
  have w0 := open_VBytes (hval 0 32 v0 rfl rfl) h0
  clear hA0 hval0
  refine (walk_ParcelRead v0 W w0 (of_laidU hL) hsh).mono fun e W' ⟨he, bel⟩ => ?_
  subst he
  exact ⟨_, rfl, _, _, _, [], _, [], hW', trodAll_mk1 (shut_bool Tryz.underlying4 _), (trodAll_cons_mk (Below.trod laidOut (by kernel_rfl) (of_decide_eq_true (by kernel_rfl)) k0 bel lt0) trodAll_mk0), rfl, bel.frame _, fun h => by cases h⟩
noncomputable def start (os : Os) : World := World.laidAll Tryz.prog os Rows.fnParcelReadRow.laid
theorem laid_met (os : Os) : laidMetH Tryz.prog Rows.fnParcelReadRow.laid ((start os).forCall (fun _ _ => 0) ⟨#[], #[.slice none 0 0], []⟩).memory :=
  by rw [MakeChecks.laidMetH_plain _ _ _ (by kernel_rfl)]; exact laidMet_laidAll _ (by kernel_rfl) (by kernel_rfl)
set_option maxRecDepth 100000 in
theorem lifted (os : Os) (started : os.Started) (H : Type) (enc : TypeId × Value → H) :
    ReturnsInHanded {} Tryz.checked os 4 .any (fun w args => (Rows.fnParcelReadSpec.pre enc Tryz.prog Tryz.f4 Rows.fnParcelReadRow.domain false w args ∧ laidMetH Tryz.prog Rows.fnParcelReadRow.laid w) ∧ sizedMet enc Tryz.prog Tryz.f4 (OpenSpec.ofChange Rows.fnParcelReadSpec) false w args) (Rows.fnParcelReadSpec.post enc Tryz.prog Tryz.f4 false true false false) := by
  refine returnsInHanded_of_calls (C := Tryz.checked) own started (by kernel_rfl)
    (ChangeSpec.witness_shaped (enc := enc) (C := Tryz.checked) (os := os) (X := fun w _ => laidMetH Tryz.prog Rows.fnParcelReadRow.laid w) false (start os) #[.slice none 0 0] 8 (World.laidAll_os _ _ _) (World.shaped_of_ZipB (by kernel_rfl) (by kernel_rfl)) (by kernel_rfl) (by kernel_rfl) (by kernel_rfl) (laid_met os)) ?_
  intro w tape i _ hsh _ hok hpre _
  obtain ⟨_, _, _, fn', hfn', _, _, _, _, hval⟩ := hok
  obtain rfl : fn' = Tryz.f4 := Option.some.inj (hfn'.symm.trans Tryz.func4)
  obtain ⟨⟨⟨ds, gs, before, hw, hc⟩, hl⟩, hz⟩ := hpre
  have hw' := DataW.Whole.of_heap (w' := w.forCall tape i) (by rfl) hw
  refine (contract H enc (w.forCall tape i) w.heap.size i.args ds gs before hval hw' (hl.of_heap (by rfl)) hsh).mono fun e W' ⟨v, he, hp⟩ => ?_
  subst he
  exact ChangeSpec.post_blind hp
theorem closed : joinedFacts Tryz.pinned.checked.prog 4 Tryz.f4 Rows.fnParcelReadSpec Rows.fnParcelReadRow = true := by
  unfold joinedFacts
  rw [show Tryz.pinned.checked.prog = Tryz.prog from rfl, enter_ok, lift_ok, make_ok]
  kernel_rfl
theorem over : Rows.fnParcelReadRow.holds Tryz.pinned (OpenSpec.ofChange Rows.fnParcelReadSpec) :=
  OpenClaim.holds_of_wide 4 Tryz.f4 rfl rfl rfl rfl rfl rfl rfl ⟨rfl, rfl, rfl, rfl, rfl⟩ rfl rfl rfl rfl rfl (by kernel_rfl) Tryz.func4 closed
    (of_decide_eq_true (by kernel_rfl)) (by unfold Func.isWrapper; first | (rw [if_pos (by decide +kernel)]; kernel_rfl) | (rw [if_neg (by decide +kernel)]; exact ⟨rfl, rfl⟩))
    (fun os started H enc _ => lifted os started H enc)
theorem plain (f : FuncId) (fn : Func) (hf : Tryz.pinned.checked.prog.funcNamed "loop.example/g03014/laws.FnParcelRead" = some f) (hfn : Tryz.pinned.checked.prog.funcs[f]? = some fn) :
    true = Tryz.pinned.checked.prog.looks [] ∧ ∀ (j : Nat) t, fn.params[j]? = some t → Tryz.pinned.checked.prog.wantsStandIn t = false := by
  obtain rfl : f = 4 := Option.some.inj ((show Tryz.prog.funcNamed "loop.example/g03014/laws.FnParcelRead" = some 4 by kernel_rfl).symm.trans hf) |>.symm
  obtain rfl : fn = Tryz.f4 := (Option.some.inj (Tryz.func4.symm.trans hfn)).symm
  refine ⟨by kernel_rfl, fun j t ht => ?_⟩
  rw [Tryz.params4] at ht
  have hm : t ∈ [32] := by simpa using Array.mem_of_getElem? ht
  have hall : ([32].all fun u => !Tryz.prog.wantsStandIn u) = true := by kernel_rfl
  exact (show Tryz.prog.wantsStandIn t = false by simpa using List.all_eq_true.1 hall t hm)
end Go.Proofs.YteicnjemaemijaaGreatDoor.fnParcelReadDone
namespace Go.Proofs.YteicnjemaemijaaGreatDoor
theorem fnParcelRead_wf : Rows.fnParcelReadRow.wfByText (OpenSpec.ofChange Rows.fnParcelReadSpec) = true := by kernel_rfl
theorem fnParcelRead_goes : false = Rows.fnParcelReadRow.goesBy Tryz.pinned.checked.prog := by kernel_rfl
/-- The statement. -/
theorem fnParcelRead_holds : Rows.FnParcelReadCardSaid :=
  Claim7.holds_tied_plain_at .later [] _ _ _ _ fnParcelReadDone.over (fun _ h => by cases h) fnParcelRead_wf (fun _ h => by cases h) fnParcelRead_row_tie rfl ⟨rfl, rfl⟩ main_ok rfl fnParcelReadDone.plain fnParcelRead_goes
end Go.Proofs.YteicnjemaemijaaGreatDoor
#print axioms Go.Proofs.YteicnjemaemijaaGreatDoor.fnParcelRead_holds
