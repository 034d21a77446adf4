/- Each argument's reading, opened: what is known of a value of the type when the call begins. No condition. -/
import Derived.Test.YteicnjemaemijaaDoorArgs
namespace Go.Proofs.YteicnjemaemijaaDoor
open Go.RowKit Go.PlainAid Go.ChangeShapes Go.WideShapes Go.Deep Go.Joins
open Go.ChangeMaps (open_string shut_string)
set_option maxRecDepth 100000

theorem own : ownKnob Tryd.prog.godebug = none := by kernel_rfl
theorem laidOut : laidOutB Tryd.prog = true := by kernel_rfl
section
variable {H : Type} {enc : TypeId × Value → H} {w : World} {base b0 : Nat} {spare : Nat → Bool} {held : Bool} {v : Value} {d : DataW H} {p : List MemPlace}
theorem agg6 {α : Type} {cs : Array α} (h : cs.size = 6) : ∃ c0 c1 c2 c3 c4 c5, cs = #[c0, c1, c2, c3, c4, c5] := by
  obtain ⟨l⟩ := cs
  match l, h with
  | [c0, c1, c2, c3, c4, c5], _ => exact ⟨c0, c1, c2, c3, c4, c5, rfl⟩
theorem agg7 {α : Type} {cs : Array α} (h : cs.size = 7) : ∃ c0 c1 c2 c3 c4 c5 c6, cs = #[c0, c1, c2, c3, c4, c5, c6] := by
  obtain ⟨l⟩ := cs
  match l, h with
  | [c0, c1, c2, c3, c4, c5, c6], _ => exact ⟨c0, c1, c2, c3, c4, c5, c6, rfl⟩
theorem open_VInt (hv : Value.okWide Tryd.prog w .any b0 3 v) (h : DataW.Trod enc Tryd.prog w base spare held 3 v d p) : VInt v := by
  obtain ⟨x, rfl, rfl, rfl, wx⟩ := open_int Tryd.underlying3 hv h
  exact ⟨x, rfl, okI_of wx⟩
theorem open_VStr (hv : Value.okWide Tryd.prog w .any b0 9 v) (h : DataW.Trod enc Tryd.prog w base spare held 9 v d p) : VStr v := by
  obtain ⟨s, rfl, rfl, rfl, ws⟩ := open_string Tryd.underlying9 hv h
  exact ⟨s, rfl, ws⟩
theorem open_VBytes (hv : Value.okWide Tryd.prog w .any b0 51 v) (h : DataW.Trod enc Tryd.prog w base spare held 51 v d p) : VBytes w v := by
  obtain ⟨A, l, c, rfl⟩ := okWide_slice Tryd.underlying51 hv
  obtain ⟨fuel, hf⟩ := h
  exact cbytes Tryd.underlying51 Tryd.underlying5 (by kernel_rfl) (by simpa [Value.cells] using hf)
theorem open_VInts (hv : Value.okWide Tryd.prog w .any b0 24 v) (h : DataW.Trod enc Tryd.prog w base spare held 24 v d p) : VInts w v := by
  obtain ⟨A, l, c, rfl⟩ := okWide_slice Tryd.underlying24 hv
  obtain ⟨fuel, hf⟩ := h
  exact cints Tryd.underlying24 Tryd.underlying3 (by kernel_rfl) (by simpa [Value.cells] using hf)
theorem open_VLabel (hv : Value.okWide Tryd.prog w .any b0 23 v) (h : DataW.Trod enc Tryd.prog w base spare held 23 v d p) : VLabel v := by
  obtain ⟨v0, v1, v2, y0, y1, y2, n, rfl, _, _, h0, h1, h2⟩ := open_agg3 Tryd.underlying23 (by kernel_rfl) (by kernel_rfl) hv h
  obtain ⟨a, rfl, ha⟩ := cint Tryd.underlying3 h0
  obtain ⟨b, rfl, hb⟩ := cint Tryd.underlying3 h1
  obtain ⟨s, rfl, hs⟩ := cstr Tryd.underlying9 h2
  exact ⟨⟨a, b, s⟩, ⟨ha, hb, hs⟩, rfl⟩
theorem open_VParcel (hv : Value.okWide Tryd.prog w .any b0 26 v) (h : DataW.Trod enc Tryd.prog w base spare held 26 v d p) : VParcel w v := by
  obtain ⟨cs, rfl, hsz⟩ := okWide_struct Tryd.underlying26 hv
  obtain ⟨c0, c1, c2, c3, c4, c5, c6, rfl⟩ := agg7 (hsz.trans (by kernel_rfl))
  obtain ⟨fuel, hf⟩ := h
  obtain ⟨ys, n', hn', hy, hlen, hyl, hg⟩ := DataW.trod_struct Tryd.underlying26 hf
  have cl : Tryd.prog.cellsOf 23 = 3 := by kernel_rfl
  have cs_ : Tryd.prog.cellsOf 9 = 1 := by kernel_rfl
  have ci : Tryd.prog.cellsOf 3 = 1 := by kernel_rfl
  have cv : Tryd.prog.cellsOf 24 = 1 := by kernel_rfl
  have some_of : ∀ {α : Type} {o : Option α} {l : List α} {i : Nat}, o = l[i]? → i < l.length → ∃ z, o = some z := fun e hi => ⟨_, e.trans (List.getElem?_eq_getElem hi)⟩
  obtain ⟨z0, t0⟩ := some_of (hg 0 _ rfl) (by rw [hyl]; decide)
  obtain ⟨z1, t1⟩ := some_of (hg 1 _ rfl) (by rw [hyl]; decide)
  obtain ⟨z2, t2⟩ := some_of (hg 2 _ rfl) (by rw [hyl]; decide)
  obtain ⟨z3, t3⟩ := some_of (hg 3 _ rfl) (by rw [hyl]; decide)
  obtain ⟨z4, t4⟩ := some_of (hg 4 _ rfl) (by rw [hyl]; decide)
  simp only [Value.cells] at t0 t1 t2 t3 t4
  obtain ⟨hl0, f0⟩ := fields_of Tryd.underlying23 (by kernel_rfl) (by kernel_rfl) t0
  obtain ⟨a0, n0, y0, e0, u0⟩ := f0 0 _ rfl
  obtain ⟨a1, n1, y1, e1, u1⟩ := f0 1 _ rfl
  obtain ⟨a2, n2, y2, e2, u2⟩ := f0 2 _ rfl
  simp [cl] at e0 e1 e2
  subst e0 e1 e2
  obtain ⟨a, rfl, ha⟩ := cint Tryd.underlying3 u0
  obtain ⟨b, rfl, hb⟩ := cint Tryd.underlying3 u1
  obtain ⟨s, rfl, hs⟩ := cstr Tryd.underlying9 u2
  obtain ⟨f, rfl, hff⟩ := cstr Tryd.underlying9 (v := c3) (by simpa [cs_] using t1)
  obtain ⟨g, rfl, hg'⟩ := cint Tryd.underlying3 (v := c4) (by simpa [ci] using t2)
  obtain ⟨xs, hxs, sx⟩ := cints (v := c5) Tryd.underlying24 Tryd.underlying3 (by kernel_rfl) (by simpa [cv] using t3)
  obtain ⟨k, rfl, hk⟩ := cint Tryd.underlying3 (v := c6) (by simpa [ci] using t4)
  exact ⟨⟨⟨a, b, s⟩, f, g, xs, k⟩, ⟨⟨ha, hb, hs⟩, hff, hg', hxs, hk⟩, c5, rfl, sx⟩
end
end Go.Proofs.YteicnjemaemijaaDoor
