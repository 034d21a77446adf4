/- Each argument's reading, opened: what is known of a value of the type when the call begins. No condition. -/
import Derived.Test.YteolobffmldfhaaArgs
namespace Go.Proofs.Yteolobffmldfhaa
open Go.RowKit Go.PlainAid Go.ChangeShapes Go.WideShapes Go.Deep Go.Joins
open Go.ChangeMaps (open_string shut_string)
set_option maxRecDepth 100000

theorem own : ownKnob Try.prog.godebug = none := by kernel_rfl
theorem laidOut : laidOutB Try.prog = true := by kernel_rfl
section
variable {H : Type} {enc : TypeId × Value → H} {w : World} {base b0 : Nat} {spare : Nat → Bool} {held : Bool} {v : Value} {d : DataW H} {p : List MemPlace}
theorem agg6 {α : Type} {cs : Array α} (h : cs.size = 6) : ∃ c0 c1 c2 c3 c4 c5, cs = #[c0, c1, c2, c3, c4, c5] := by
  obtain ⟨l⟩ := cs
  match l, h with
  | [c0, c1, c2, c3, c4, c5], _ => exact ⟨c0, c1, c2, c3, c4, c5, rfl⟩
theorem agg7 {α : Type} {cs : Array α} (h : cs.size = 7) : ∃ c0 c1 c2 c3 c4 c5 c6, cs = #[c0, c1, c2, c3, c4, c5, c6] := by
  obtain ⟨l⟩ := cs
  match l, h with
  | [c0, c1, c2, c3, c4, c5, c6], _ => exact ⟨c0, c1, c2, c3, c4, c5, c6, rfl⟩
theorem open_VInt (hv : Value.okWide Try.prog w .any b0 3 v) (h : DataW.Trod enc Try.prog w base spare held 3 v d p) : VInt v := by
  obtain ⟨x, rfl, rfl, rfl, wx⟩ := open_int Try.underlying3 hv h
  exact ⟨x, rfl, okI_of wx⟩
theorem open_VStr (hv : Value.okWide Try.prog w .any b0 9 v) (h : DataW.Trod enc Try.prog w base spare held 9 v d p) : VStr v := by
  obtain ⟨s, rfl, rfl, rfl, ws⟩ := open_string Try.underlying9 hv h
  exact ⟨s, rfl, ws⟩
theorem open_VBytes (hv : Value.okWide Try.prog w .any b0 28 v) (h : DataW.Trod enc Try.prog w base spare held 28 v d p) : VBytes w v := by
  obtain ⟨A, l, c, rfl⟩ := okWide_slice Try.underlying28 hv
  obtain ⟨fuel, hf⟩ := h
  exact cbytes Try.underlying28 Try.underlying5 (by kernel_rfl) (by simpa [Value.cells] using hf)
theorem open_VInts (hv : Value.okWide Try.prog w .any b0 22 v) (h : DataW.Trod enc Try.prog w base spare held 22 v d p) : VInts w v := by
  obtain ⟨A, l, c, rfl⟩ := okWide_slice Try.underlying22 hv
  obtain ⟨fuel, hf⟩ := h
  exact cints Try.underlying22 Try.underlying3 (by kernel_rfl) (by simpa [Value.cells] using hf)
theorem open_VLabel (hv : Value.okWide Try.prog w .any b0 34 v) (h : DataW.Trod enc Try.prog w base spare held 34 v d p) : VLabel v := by
  obtain ⟨v0, v1, v2, y0, y1, y2, n, rfl, _, _, h0, h1, h2⟩ := open_agg3 Try.underlying34 (by kernel_rfl) (by kernel_rfl) hv h
  obtain ⟨a, rfl, ha⟩ := cint Try.underlying3 h0
  obtain ⟨b, rfl, hb⟩ := cint Try.underlying3 h1
  obtain ⟨s, rfl, hs⟩ := cstr Try.underlying9 h2
  exact ⟨⟨a, b, s⟩, ⟨ha, hb, hs⟩, rfl⟩
theorem czone {fuel : Nat} {cs : List Value} {z : DataW H × List MemPlace} (h : DataW.trod enc Try.prog w base spare held fuel 90 cs = some z) : ∃ x : ZoneD, x.ok ∧ x.vals = cs := by
  obtain ⟨hl, hf⟩ := fields_of Try.underlying90 (by kernel_rfl) (by kernel_rfl) h
  obtain ⟨v0, n0, z0, e0, t0⟩ := hf 0 _ rfl
  obtain ⟨v1, n1, z1, e1, t1⟩ := hf 1 _ rfl
  obtain ⟨a, rfl, ha⟩ := cstr Try.underlying9 t0
  obtain ⟨b, rfl, hb⟩ := cstr Try.underlying9 t1
  refine ⟨⟨a, b⟩, ⟨ha, hb⟩, ?_⟩
  match cs, hl with
  | [c0, c1], _ => simp at e0 e1; simp [ZoneD.vals, e0, e1]
theorem open_VZones (hv : Value.okWide Try.prog w .any b0 55 v) (h : DataW.Trod enc Try.prog w base spare held 55 v d p) : VZones w v := by
  obtain ⟨A, l, c, rfl⟩ := okWide_slice Try.underlying55 hv
  obtain ⟨fuel, hf⟩ := h
  exact slice_of Try.underlying55 (by kernel_rfl) (fun n cs z _ hz => czone hz) (by omega) (by simpa [Value.cells] using hf)
theorem crate {fuel : Nat} {cs : List Value} {z : DataW H × List MemPlace} (h : DataW.trod enc Try.prog w base spare held fuel 94 cs = some z) : ∃ x : RateD, x.ok ∧ x.vals = cs := by
  obtain ⟨hl, hf⟩ := fields_of Try.underlying94 (by kernel_rfl) (by kernel_rfl) h
  obtain ⟨v0, n0, z0, e0, t0⟩ := hf 0 _ rfl
  obtain ⟨v1, n1, z1, e1, t1⟩ := hf 1 _ rfl
  obtain ⟨v2, n2, z2, e2, t2⟩ := hf 2 _ rfl
  obtain ⟨v3, n3, z3, e3, t3⟩ := hf 3 _ rfl
  obtain ⟨a, rfl, ha⟩ := cint Try.underlying3 t0
  obtain ⟨b, rfl, hb⟩ := cint Try.underlying3 t1
  obtain ⟨c, rfl, hc⟩ := cint Try.underlying3 t2
  obtain ⟨e, rfl, he⟩ := cint Try.underlying3 t3
  refine ⟨⟨a, b, c, e⟩, ⟨ha, hb, hc, he⟩, ?_⟩
  match cs, hl with
  | [c0, c1, c2, c3], _ => simp at e0 e1 e2 e3; simp [RateD.vals, e0, e1, e2, e3]
theorem open_VRates (hv : Value.okWide Try.prog w .any b0 56 v) (h : DataW.Trod enc Try.prog w base spare held 56 v d p) : VRates w v := by
  obtain ⟨A, l, c, rfl⟩ := okWide_slice Try.underlying56 hv
  obtain ⟨fuel, hf⟩ := h
  exact slice_of Try.underlying56 (by kernel_rfl) (fun n cs z _ hz => crate hz) (by omega) (by simpa [Value.cells] using hf)
theorem open_VParcel (hv : Value.okWide Try.prog w .any b0 36 v) (h : DataW.Trod enc Try.prog w base spare held 36 v d p) : VParcel w v := by
  obtain ⟨cs, rfl, hsz⟩ := okWide_struct Try.underlying36 hv
  obtain ⟨c0, c1, c2, c3, c4, c5, c6, rfl⟩ := agg7 (hsz.trans (by kernel_rfl))
  obtain ⟨fuel, hf⟩ := h
  obtain ⟨ys, n', hn', hy, hlen, hyl, hg⟩ := DataW.trod_struct Try.underlying36 hf
  have cl : Try.prog.cellsOf 34 = 3 := by kernel_rfl
  have cs_ : Try.prog.cellsOf 9 = 1 := by kernel_rfl
  have ci : Try.prog.cellsOf 3 = 1 := by kernel_rfl
  have cv : Try.prog.cellsOf 22 = 1 := by kernel_rfl
  have some_of : ∀ {α : Type} {o : Option α} {l : List α} {i : Nat}, o = l[i]? → i < l.length → ∃ z, o = some z := fun e hi => ⟨_, e.trans (List.getElem?_eq_getElem hi)⟩
  obtain ⟨z0, t0⟩ := some_of (hg 0 _ rfl) (by rw [hyl]; decide)
  obtain ⟨z1, t1⟩ := some_of (hg 1 _ rfl) (by rw [hyl]; decide)
  obtain ⟨z2, t2⟩ := some_of (hg 2 _ rfl) (by rw [hyl]; decide)
  obtain ⟨z3, t3⟩ := some_of (hg 3 _ rfl) (by rw [hyl]; decide)
  obtain ⟨z4, t4⟩ := some_of (hg 4 _ rfl) (by rw [hyl]; decide)
  simp only [Value.cells] at t0 t1 t2 t3 t4
  obtain ⟨hl0, f0⟩ := fields_of Try.underlying34 (by kernel_rfl) (by kernel_rfl) t0
  obtain ⟨a0, n0, y0, e0, u0⟩ := f0 0 _ rfl
  obtain ⟨a1, n1, y1, e1, u1⟩ := f0 1 _ rfl
  obtain ⟨a2, n2, y2, e2, u2⟩ := f0 2 _ rfl
  simp [cl] at e0 e1 e2
  subst e0 e1 e2
  obtain ⟨a, rfl, ha⟩ := cint Try.underlying3 u0
  obtain ⟨b, rfl, hb⟩ := cint Try.underlying3 u1
  obtain ⟨s, rfl, hs⟩ := cstr Try.underlying9 u2
  obtain ⟨f, rfl, hff⟩ := cstr Try.underlying9 (v := c3) (by simpa [cs_] using t1)
  obtain ⟨g, rfl, hg'⟩ := cint Try.underlying3 (v := c4) (by simpa [ci] using t2)
  obtain ⟨xs, hxs, sx⟩ := cints (v := c5) Try.underlying22 Try.underlying3 (by kernel_rfl) (by simpa [cv] using t3)
  obtain ⟨k, rfl, hk⟩ := cint Try.underlying3 (v := c6) (by simpa [ci] using t4)
  exact ⟨⟨⟨a, b, s⟩, f, g, xs, k⟩, ⟨⟨ha, hb, hs⟩, hff, hg', hxs, hk⟩, c5, rfl, sx⟩
end
end Go.Proofs.Yteolobffmldfhaa
