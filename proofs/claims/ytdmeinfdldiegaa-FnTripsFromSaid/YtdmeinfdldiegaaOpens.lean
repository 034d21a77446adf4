/- Each argument's reading, opened: what is known of a value of the type when the call begins. No condition. -/
import Derived.Test.YtdmeinfdldiegaaArgs
namespace Go.Proofs.Ytdmeinfdldiegaa
open Go.RowKit Go.PlainAid Go.ChangeShapes Go.WideShapes Go.Deep Go.Joins
open Go.ChangeMaps (open_string shut_string)
set_option maxRecDepth 100000

theorem own : ownKnob Try.prog.godebug = none := by kernel_rfl
theorem laidOut : laidOutB Try.prog = true := by kernel_rfl
section
variable {H : Type} {enc : TypeId × Value → H} {w : World} {base b0 : Nat} {spare : Nat → Bool} {held : Bool} {v : Value} {d : DataW H} {p : List MemPlace}
theorem agg6 {α : Type} {cs : Array α} (h : cs.size = 6) : ∃ c0 c1 c2 c3 c4 c5, cs = #[c0, c1, c2, c3, c4, c5] := by
  obtain ⟨l⟩ := cs
  match l, h with
  | [c0, c1, c2, c3, c4, c5], _ => exact ⟨c0, c1, c2, c3, c4, c5, rfl⟩
theorem agg7 {α : Type} {cs : Array α} (h : cs.size = 7) : ∃ c0 c1 c2 c3 c4 c5 c6, cs = #[c0, c1, c2, c3, c4, c5, c6] := by
  obtain ⟨l⟩ := cs
  match l, h with
  | [c0, c1, c2, c3, c4, c5, c6], _ => exact ⟨c0, c1, c2, c3, c4, c5, c6, rfl⟩
theorem open_VInt (hv : Value.okWide Try.prog w .any b0 3 v) (h : DataW.Trod enc Try.prog w base spare held 3 v d p) : VInt v := by
  obtain ⟨x, rfl, rfl, rfl, wx⟩ := open_int Try.underlying3 hv h
  exact ⟨x, rfl, okI_of wx⟩
theorem open_VStr (hv : Value.okWide Try.prog w .any b0 9 v) (h : DataW.Trod enc Try.prog w base spare held 9 v d p) : VStr v := by
  obtain ⟨s, rfl, rfl, rfl, ws⟩ := open_string Try.underlying9 hv h
  exact ⟨s, rfl, ws⟩
theorem open_VBytes (hv : Value.okWide Try.prog w .any b0 38 v) (h : DataW.Trod enc Try.prog w base spare held 38 v d p) : VBytes w v := by
  obtain ⟨A, l, c, rfl⟩ := okWide_slice Try.underlying38 hv
  obtain ⟨fuel, hf⟩ := h
  exact cbytes Try.underlying38 Try.underlying5 (by kernel_rfl) (by simpa [Value.cells] using hf)
theorem open_VInts (hv : Value.okWide Try.prog w .any b0 23 v) (h : DataW.Trod enc Try.prog w base spare held 23 v d p) : VInts w v := by
  obtain ⟨A, l, c, rfl⟩ := okWide_slice Try.underlying23 hv
  obtain ⟨fuel, hf⟩ := h
  exact cints Try.underlying23 Try.underlying3 (by kernel_rfl) (by simpa [Value.cells] using hf)
theorem cleg {fuel : Nat} {cs : List Value} {z : DataW H × List MemPlace} (h : DataW.trod enc Try.prog w base spare held fuel 72 cs = some z) : ∃ x : LegD, x.ok ∧ x.vals = cs := by
  obtain ⟨hl, hf⟩ := fields_of Try.underlying72 (by kernel_rfl) (by kernel_rfl) h
  obtain ⟨v0, n0, z0, e0, t0⟩ := hf 0 _ rfl
  obtain ⟨v1, n1, z1, e1, t1⟩ := hf 1 _ rfl
  obtain ⟨v2, n2, z2, e2, t2⟩ := hf 2 _ rfl
  obtain ⟨v3, n3, z3, e3, t3⟩ := hf 3 _ rfl
  obtain ⟨v4, n4, z4, e4, t4⟩ := hf 4 _ rfl
  obtain ⟨v5, n5, z5, e5, t5⟩ := hf 5 _ rfl
  obtain ⟨a, rfl, ha⟩ := cstr Try.underlying9 t0
  obtain ⟨b, rfl, hb⟩ := cstr Try.underlying9 t1
  obtain ⟨c, rfl, hc⟩ := cint Try.underlying3 t2
  obtain ⟨e, rfl, he⟩ := cint Try.underlying3 t3
  obtain ⟨f, rfl, hf'⟩ := cint Try.underlying3 t4
  obtain ⟨g, rfl, hg⟩ := cint Try.underlying3 t5
  refine ⟨⟨a, b, c, e, f, g⟩, ⟨ha, hb, hc, he, hf', hg⟩, ?_⟩
  match cs, hl with
  | [c0, c1, c2, c3, c4, c5], _ => simp at e0 e1 e2 e3 e4 e5; simp [LegD.vals, e0, e1, e2, e3, e4, e5]
theorem open_VLeg (hv : Value.okWide Try.prog w .any b0 72 v) (h : DataW.Trod enc Try.prog w base spare held 72 v d p) : VLeg v := by
  obtain ⟨cs, rfl, hsz⟩ := okWide_struct Try.underlying72 hv
  obtain ⟨c0, c1, c2, c3, c4, c5, rfl⟩ := agg6 (hsz.trans (by kernel_rfl))
  obtain ⟨fuel, hf⟩ := h
  obtain ⟨x, hx, e⟩ := cleg (cs := [c0, c1, c2, c3, c4, c5]) (by simpa [Value.cells] using hf)
  simp [LegD.vals] at e
  exact ⟨x, hx, by simp [e]⟩
theorem open_VNet (hv : Value.okWide Try.prog w .any b0 25 v) (h : DataW.Trod enc Try.prog w base spare held 25 v d p) : VNet w v := by
  obtain ⟨v0, v1, v2, y0, y1, y2, n, rfl, _, _, h0, h1, h2⟩ := open_agg3 Try.underlying25 (by kernel_rfl) (by kernel_rfl) hv h
  obtain ⟨ls, hls, sl⟩ := slice_of (size := 6) (vals := LegD.vals) (ok := LegD.ok) Try.underlying22 (by kernel_rfl) (fun n cs z _ hz => cleg hz) (by omega) h0
  obtain ⟨os, hos, so⟩ := cints Try.underlying23 Try.underlying3 (by kernel_rfl) h1
  obtain ⟨c, rfl, hc⟩ := cint Try.underlying3 h2
  exact ⟨⟨ls, os, c⟩, ⟨hls, hos, hc⟩, v0, v1, rfl, sl, so⟩
end
end Go.Proofs.Ytdmeinfdldiegaa
