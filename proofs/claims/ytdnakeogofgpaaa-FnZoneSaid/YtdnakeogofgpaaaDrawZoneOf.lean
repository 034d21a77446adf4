/- What the reference's draw of zones and a place answers. No condition. -/
import Derived.Test.YtdnakeogofgpaaaDrawZone
namespace Go.Proofs.Ytdnakeogofgpaaa
open Go.RowKit Go.PlainAid
set_option maxRecDepth 100000
set_option linter.unusedVariables false
theorem Saves.belz {C : Nat} {a b : World} (h : Saves C a b) {w : World} (h0 : Below w.heap.size w a) (h1 : w.heap.size ≤ C) : Below w.heap.size w b := h0.trans (h.below h1 h0.size)
theorem SliceOf.saves {α : Type} {w w' : World} {size : Nat} {vals : α → List Value} {A : Option Addr} {n c : Nat} {xs : List α} (h : SliceOf w size vals (.slice A n c) xs) {C : Nat} (s : Saves C w w') (hb : ∀ b off, A = some ⟨b, off, none⟩ → b ≠ C) : SliceOf w' size vals (.slice A n c) xs := by
  obtain ⟨A', c', e, h1, h2, h3⟩ := h
  injection e with e1 e2 e3
  subst e1 e2 e3
  refine ⟨A, c, rfl, h1, h2, fun hn => ?_⟩
  obtain ⟨b, off, rfl, hlt, hc⟩ := h3 hn
  exact ⟨b, off, rfl, Nat.lt_of_lt_of_le hlt s.size, fun k x j u hx hu => (s.cell (p := ⟨b, _, none⟩) hlt (hb b off rfl)).trans (hc k x j u hx hu)⟩
def farNames : List ByteArray := [⟨#[65, 65, 65]⟩, ⟨#[90, 90, 90]⟩, ⟨#[]⟩, ⟨#[66, 82]⟩, ⟨#[67, 68, 72]⟩]
theorem place_small {s : ByteArray} (h : s ∈ placeNames) : s.size ≤ maxLen := by
  have : ∀ t ∈ placeNames, t.size ≤ maxLen := by unfold placeNames maxLen; decide
  exact this s h
theorem far_small {s : ByteArray} (h : s ∈ farNames) : s.size ≤ maxLen := by
  have : ∀ t ∈ farNames, t.size ≤ maxLen := by unfold farNames maxLen; decide
  exact this s h
theorem big_any0 (xs : List Int) (v : Value) (w : World) (h : SliceOf w 1 vB v xs) : Calls Try.prog 6 #[v] w fun e w' => e = .returned (.bool (decide (4096 < (xs.length : Int)))) ∧ w = w' := by
  obtain ⟨A, c, rfl, hle, hm⟩ := h.form
  go_enter Try.func6, Try.ntmps6
  go_wp2
  go_ret
  exact ⟨rfl, rfl⟩
set_option maxHeartbeats 1600000 in
theorem drawZoneOf_any (xs : List Int) (v : Value) (w : World) (h : SliceOf w 1 vB v xs) : Calls Try.prog 7 #[v] w fun e w' => ∃ (u : Value) (zs : List ZoneD) (p : ByteArray), e = .returned (.tuple #[u, .string p]) ∧ SliceOf w' 2 ZoneD.vals u zs ∧ zs.length ≤ 9 ∧ (∀ z ∈ zs, z.ok) ∧ p.size ≤ maxLen ∧ Below w.heap.size w w' := by
  obtain ⟨A, c, rfl, hle, hm⟩ := h.form
  go_enter Try.func7, Try.ntmps7
  go_wp2_with fail
  refine (new_any xs _ _ h).mono ?_
  rintro e w1 ⟨C, hC, rfl, c1, b1⟩
  have lt1 := c1.lt
  go_wp2_with fail
  refine (anyZones_any C _ c1).mono ?_
  rintro e w2 ⟨u, zs, rfl, o2, l2, k2, c2, s2⟩
  have B2 := s2.belz b1 hC
  have lt2 := c2.lt
  go_wp2_with fail
  refine (place_any C _ c2).mono ?_
  rintro e w3 ⟨p, rfl, hp, c3, s3⟩
  have B3 := s3.belz B2 hC
  have o3 := o2.saved lt1 s3
  go_wp2_with fail
  refine (once_any C 4 _ c3 (by unfold okI; omega)).mono ?_
  rintro e w4 ⟨t, rfl, c4, s4⟩
  have B4 := s4.belz B3 hC
  have o4 := o3.saved lt1 s4
  cases t
  · go_wp2_with fail
    go_ret2
    exact ⟨_, zs, p, rfl, o4.slice Zone_len (by omega), l2, k2, place_small hp, B4⟩
  · go_wp2_with fail
    have hS := lit_slice (f := Value.string) (vals := vS) (fun _ => rfl) farNames 9 w4 #[.string ⟨#[65, 65, 65]⟩, .string ⟨#[90, 90, 90]⟩, .string ⟨#[]⟩, .string ⟨#[66, 82]⟩, .string ⟨#[67, 68, 72]⟩] rfl (by decide)
    have b0 : Below w4.heap.size w4 (w4.alloc (.cells #[.string ⟨#[65, 65, 65]⟩, .string ⟨#[90, 90, 90]⟩, .string ⟨#[]⟩, .string ⟨#[66, 82]⟩, .string ⟨#[67, 68, 72]⟩] 9)) := by go_grown
    have o4b := o4.keep b0 (Nat.le_refl _)
    refine (str_any C farNames _ _ (c4.keep b0) (by decide) hS (fun b off n c hv => by have := c4.lt; injection hv with e1 e2 e3; injection e1 with e1; injection e1 with e1 e2; omega)).mono ?_
    rintro e w5 ⟨q, rfl, hq, c5, s5⟩
    have B5 := s5.belz (chain B4 b0) hC
    have o5 := o4b.saved lt1 s5
    go_wp2_with fail
    go_ret2
    exact ⟨_, zs, q, rfl, o5.slice Zone_len (by omega), l2, k2, far_small hq, B5⟩
end Go.Proofs.Ytdnakeogofgpaaa
