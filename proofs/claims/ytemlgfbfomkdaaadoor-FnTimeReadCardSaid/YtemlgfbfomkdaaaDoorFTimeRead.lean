/- The statement of FnTimeRead, as a tied card: whatever the input, the law returns true and each argument reads afterwards as it read before. The condition: the listed package-level variables read as their initialisers lay them, which the card ties to the text. -/
import Derived.Test.YtemlgfbfomkdaaaDoorWTimeRead
import Derived.Test.YtemlgfbfomkdaaaDoorOpens
import Derived.Test.YtemlgfbfomkdaaaDoorHead
import Derived.Test.YtemlgfbfomkdaaaDoorDoor
import Derived.JoinedOf
import Derived.Lay
namespace Go.Proofs.YtemlgfbfomkdaaaDoor.fnTimeReadDone
open Go.RowKit Go.ChangeShapes Go.WideShapes Go.ChangeAt
set_option linter.unusedVariables false
set_option maxRecDepth 100000
theorem contract (H : Type) (enc : TypeId × Value → H) (W : World) (base : Nat) (args : Array Value) (ds gs : List (DataW H)) (before : List MemPlace)
    (hval0 : ∀ (j : Nat) t v, Tryd.f4.params[j]? = some t → args[j]? = some v → Value.okWide Tryd.prog W .any base t v)
    (hW : DataW.Whole enc Tryd.prog Tryd.f4.params.toList Rows.fnTimeReadSpec.vars false W args.toList ds gs before) (hL : laidMetH Tryd.prog Rows.fnTimeReadRow.laid W) (hsh : W.ShapedOpen Tryd.prog) :
    Calls Tryd.prog 4 args W fun e W' => ∃ v, e = .returned v ∧ Rows.fnTimeReadSpec.post enc Tryd.prog Tryd.f4 false true false false W args v W' := by
  have hval : ∀ (j : Nat) t v, Tryd.f4.params[j]? = some t → args[j]? = some v → Value.okWide Tryd.prog W .any base t v := hval0
  have hW' := hW
  obtain ⟨p, q, hA0, hV, rfl, hfz, hnd⟩ := hW
  have hA : DataW.TrodAll enc Tryd.prog W 0 (fun _ => true) true Tryd.f4.params.toList args.toList ds p := hA0
  rw [Tryd.params4] at hA hval
  obtain ⟨v0, vs0, d0, ds0, p0, q0, hargs, rfl, rfl, h0, r0⟩ := trodAll_cons hA
  obtain ⟨rfl, rfl, rfl⟩ := trodAll_nil r0
  obtain rfl : args = #[v0] := by cases args; simp_all
  obtain ⟨rfl, rfl⟩ := trodVars_none hV
  have k0 := h0
  have lt0 : ∀ x ∈ p0, x.block < W.heap.size := by obtain ⟨m, hm⟩ := k0; exact DataW.trod_lt m _ _ _ hm
  have w0 := open_VBytes (hval 0 25 v0 rfl rfl) h0
  clear hA0 hval0
  refine (walk_TimeRead v0 W w0 (of_laidR hL) hsh).mono fun e W' ⟨he, bel⟩ => ?_
  subst he
  exact ⟨_, rfl, _, _, _, [], _, [], hW', trodAll_mk1 (shut_bool Tryd.underlying4 _), (trodAll_cons_mk (Below.trod laidOut (by kernel_rfl) (of_decide_eq_true (by kernel_rfl)) k0 bel lt0) trodAll_mk0), rfl, bel.frame _, fun h => by cases h⟩
noncomputable def start (os : Os) : World := World.laidAll Tryd.prog os Rows.fnTimeReadRow.laid
theorem laid_met (os : Os) : laidMetH Tryd.prog Rows.fnTimeReadRow.laid ((start os).forCall (fun _ _ => 0) ⟨#[], #[.slice none 0 0], []⟩).memory :=
  by rw [MakeChecks.laidMetH_plain _ _ _ (by kernel_rfl)]; exact laidMet_laidAll _ (by kernel_rfl) (by kernel_rfl)
set_option maxRecDepth 100000 in
theorem lifted (os : Os) (started : os.Started) (H : Type) (enc : TypeId × Value → H) :
    ReturnsInHanded {} Tryd.checked os 4 .any (fun w args => (Rows.fnTimeReadSpec.pre enc Tryd.prog Tryd.f4 Rows.fnTimeReadRow.domain false w args ∧ laidMetH Tryd.prog Rows.fnTimeReadRow.laid w) ∧ sizedMet enc Tryd.prog Tryd.f4 (OpenSpec.ofChange Rows.fnTimeReadSpec) false w args) (Rows.fnTimeReadSpec.post enc Tryd.prog Tryd.f4 false true false false) := by
  refine returnsInHanded_of_calls (C := Tryd.checked) own started (by kernel_rfl)
    (ChangeSpec.witness_shaped (enc := enc) (C := Tryd.checked) (os := os) (X := fun w _ => laidMetH Tryd.prog Rows.fnTimeReadRow.laid w) false (start os) #[.slice none 0 0] 8 (World.laidAll_os _ _ _) (World.shaped_of_ZipB (by kernel_rfl) (by kernel_rfl)) (by kernel_rfl) (by kernel_rfl) (by kernel_rfl) (laid_met os)) ?_
  intro w tape i _ hsh _ hok hpre _
  obtain ⟨_, _, _, fn', hfn', _, _, _, _, hval⟩ := hok
  obtain rfl : fn' = Tryd.f4 := Option.some.inj (hfn'.symm.trans Tryd.func4)
  obtain ⟨⟨⟨ds, gs, before, hw, hc⟩, hl⟩, hz⟩ := hpre
  have hw' := DataW.Whole.of_heap (w' := w.forCall tape i) (by rfl) hw
  refine (contract H enc (w.forCall tape i) w.heap.size i.args ds gs before hval hw' (hl.of_heap (by rfl)) hsh).mono fun e W' ⟨v, he, hp⟩ => ?_
  subst he
  exact ChangeSpec.post_blind hp
theorem closed : joinedFacts Tryd.pinned.checked.prog 4 Tryd.f4 Rows.fnTimeReadSpec Rows.fnTimeReadRow = true := by
  unfold joinedFacts
  rw [show Tryd.pinned.checked.prog = Tryd.prog from rfl, enter_ok, lift_ok, make_ok]
  kernel_rfl
theorem over : Rows.fnTimeReadRow.holds Tryd.pinned (OpenSpec.ofChange Rows.fnTimeReadSpec) :=
  OpenClaim.holds_of_wide 4 Tryd.f4 rfl rfl rfl rfl rfl rfl rfl ⟨rfl, rfl, rfl, rfl, rfl⟩ rfl rfl rfl rfl rfl (by kernel_rfl) Tryd.func4 closed
    (of_decide_eq_true (by kernel_rfl)) (by unfold Func.isWrapper; first | (rw [if_pos (by decide +kernel)]; kernel_rfl) | (rw [if_neg (by decide +kernel)]; exact ⟨rfl, rfl⟩))
    (fun os started H enc _ => lifted os started H enc)
theorem plain (f : FuncId) (fn : Func) (hf : Tryd.pinned.checked.prog.funcNamed "loop.example/g03014/laws.FnTimeRead" = some f) (hfn : Tryd.pinned.checked.prog.funcs[f]? = some fn) :
    true = Tryd.pinned.checked.prog.looks [] ∧ ∀ (j : Nat) t, fn.params[j]? = some t → Tryd.pinned.checked.prog.wantsStandIn t = false := by
  obtain rfl : f = 4 := Option.some.inj ((show Tryd.prog.funcNamed "loop.example/g03014/laws.FnTimeRead" = some 4 by kernel_rfl).symm.trans hf) |>.symm
  obtain rfl : fn = Tryd.f4 := (Option.some.inj (Tryd.func4.symm.trans hfn)).symm
  refine ⟨by kernel_rfl, fun j t ht => ?_⟩
  rw [Tryd.params4] at ht
  have hm : t ∈ [25] := by simpa using Array.mem_of_getElem? ht
  have hall : ([25].all fun u => !Tryd.prog.wantsStandIn u) = true := by kernel_rfl
  exact (show Tryd.prog.wantsStandIn t = false by simpa using List.all_eq_true.1 hall t hm)
end Go.Proofs.YtemlgfbfomkdaaaDoor.fnTimeReadDone
namespace Go.Proofs.YtemlgfbfomkdaaaDoor
theorem fnTimeRead_wf : Rows.fnTimeReadRow.wfByText (OpenSpec.ofChange Rows.fnTimeReadSpec) = true := by kernel_rfl
theorem fnTimeRead_goes : false = Rows.fnTimeReadRow.goesBy Tryd.pinned.checked.prog := by kernel_rfl
/-- The statement. -/
theorem fnTimeRead_holds : Rows.FnTimeReadCardSaid :=
  Claim7.holds_tied_plain_at .later [] _ _ _ _ fnTimeReadDone.over (fun _ h => by cases h) fnTimeRead_wf (fun _ h => by cases h) fnTimeRead_row_tie rfl ⟨rfl, rfl⟩ main_ok rfl fnTimeReadDone.plain fnTimeRead_goes
end Go.Proofs.YtemlgfbfomkdaaaDoor
#print axioms Go.Proofs.YtemlgfbfomkdaaaDoor.fnTimeRead_holds
