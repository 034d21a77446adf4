/- Each argument's reading, opened: what is known of a value of the type when the call begins. No condition. -/
import Derived.Test.YtpodbdmeamgpgaaDoorArgs
namespace Go.Proofs.YtpodbdmeamgpgaaDoor
open Go.RowKit Go.PlainAid Go.ChangeShapes Go.WideShapes Go.Deep Go.Joins
open Go.ChangeMaps (open_string shut_string)
set_option maxRecDepth 100000

theorem own : ownKnob Tryd.prog.godebug = none := by kernel_rfl
theorem laidOut : laidOutB Tryd.prog = true := by kernel_rfl
section
variable {H : Type} {enc : TypeId × Value → H} {w : World} {base b0 : Nat} {spare : Nat → Bool} {held : Bool} {v : Value} {d : DataW H} {p : List MemPlace}
theorem agg6 {α : Type} {cs : Array α} (h : cs.size = 6) : ∃ c0 c1 c2 c3 c4 c5, cs = #[c0, c1, c2, c3, c4, c5] := by
  obtain ⟨l⟩ := cs
  match l, h with
  | [c0, c1, c2, c3, c4, c5], _ => exact ⟨c0, c1, c2, c3, c4, c5, rfl⟩
theorem agg7 {α : Type} {cs : Array α} (h : cs.size = 7) : ∃ c0 c1 c2 c3 c4 c5 c6, cs = #[c0, c1, c2, c3, c4, c5, c6] := by
  obtain ⟨l⟩ := cs
  match l, h with
  | [c0, c1, c2, c3, c4, c5, c6], _ => exact ⟨c0, c1, c2, c3, c4, c5, c6, rfl⟩
theorem open_VInt (hv : Value.okWide Tryd.prog w .any b0 3 v) (h : DataW.Trod enc Tryd.prog w base spare held 3 v d p) : VInt v := by
  obtain ⟨x, rfl, rfl, rfl, wx⟩ := open_int Tryd.underlying3 hv h
  exact ⟨x, rfl, okI_of wx⟩
theorem open_VStr (hv : Value.okWide Tryd.prog w .any b0 9 v) (h : DataW.Trod enc Tryd.prog w base spare held 9 v d p) : VStr v := by
  obtain ⟨s, rfl, rfl, rfl, ws⟩ := open_string Tryd.underlying9 hv h
  exact ⟨s, rfl, ws⟩
theorem open_VBytes (hv : Value.okWide Tryd.prog w .any b0 44 v) (h : DataW.Trod enc Tryd.prog w base spare held 44 v d p) : VBytes w v := by
  obtain ⟨A, l, c, rfl⟩ := okWide_slice Tryd.underlying44 hv
  obtain ⟨fuel, hf⟩ := h
  exact cbytes Tryd.underlying44 Tryd.underlying5 (by kernel_rfl) (by simpa [Value.cells] using hf)
theorem open_VInts (hv : Value.okWide Tryd.prog w .any b0 86 v) (h : DataW.Trod enc Tryd.prog w base spare held 86 v d p) : VInts w v := by
  obtain ⟨A, l, c, rfl⟩ := okWide_slice Tryd.underlying86 hv
  obtain ⟨fuel, hf⟩ := h
  exact cints Tryd.underlying86 Tryd.underlying3 (by kernel_rfl) (by simpa [Value.cells] using hf)
theorem open_VLabel (hv : Value.okWide Tryd.prog w .any b0 35 v) (h : DataW.Trod enc Tryd.prog w base spare held 35 v d p) : VLabel v := by
  obtain ⟨v0, v1, v2, y0, y1, y2, n, rfl, _, _, h0, h1, h2⟩ := open_agg3 Tryd.underlying35 (by kernel_rfl) (by kernel_rfl) hv h
  obtain ⟨a, rfl, ha⟩ := cint Tryd.underlying3 h0
  obtain ⟨b, rfl, hb⟩ := cint Tryd.underlying3 h1
  obtain ⟨s, rfl, hs⟩ := cstr Tryd.underlying9 h2
  exact ⟨⟨a, b, s⟩, ⟨ha, hb, hs⟩, rfl⟩
theorem cleg {fuel : Nat} {cs : List Value} {z : DataW H × List MemPlace} (h : DataW.trod enc Tryd.prog w base spare held fuel 28 cs = some z) : ∃ x : LegD, x.ok ∧ x.vals = cs := by
  obtain ⟨hl, hf⟩ := fields_of Tryd.underlying28 (by kernel_rfl) (by kernel_rfl) h
  obtain ⟨v0, n0, z0, e0, t0⟩ := hf 0 _ rfl
  obtain ⟨v1, n1, z1, e1, t1⟩ := hf 1 _ rfl
  obtain ⟨v2, n2, z2, e2, t2⟩ := hf 2 _ rfl
  obtain ⟨v3, n3, z3, e3, t3⟩ := hf 3 _ rfl
  obtain ⟨v4, n4, z4, e4, t4⟩ := hf 4 _ rfl
  obtain ⟨v5, n5, z5, e5, t5⟩ := hf 5 _ rfl
  obtain ⟨a, rfl, ha⟩ := cstr Tryd.underlying9 t0
  obtain ⟨b, rfl, hb⟩ := cstr Tryd.underlying9 t1
  obtain ⟨c, rfl, hc⟩ := cint Tryd.underlying3 t2
  obtain ⟨e, rfl, he⟩ := cint Tryd.underlying3 t3
  obtain ⟨f, rfl, hf'⟩ := cint Tryd.underlying3 t4
  obtain ⟨g, rfl, hg⟩ := cint Tryd.underlying3 t5
  refine ⟨⟨a, b, c, e, f, g⟩, ⟨ha, hb, hc, he, hf', hg⟩, ?_⟩
  match cs, hl with
  | [c0, c1, c2, c3, c4, c5], _ => simp at e0 e1 e2 e3 e4 e5; simp [LegD.vals, e0, e1, e2, e3, e4, e5]
theorem open_VLeg (hv : Value.okWide Tryd.prog w .any b0 28 v) (h : DataW.Trod enc Tryd.prog w base spare held 28 v d p) : VLeg v := by
  obtain ⟨cs, rfl, hsz⟩ := okWide_struct Tryd.underlying28 hv
  obtain ⟨c0, c1, c2, c3, c4, c5, rfl⟩ := agg6 (hsz.trans (by kernel_rfl))
  obtain ⟨fuel, hf⟩ := h
  obtain ⟨x, hx, e⟩ := cleg (cs := [c0, c1, c2, c3, c4, c5]) (by simpa [Value.cells] using hf)
  simp [LegD.vals] at e
  exact ⟨x, hx, by simp [e]⟩
end
end Go.Proofs.YtpodbdmeamgpgaaDoor
