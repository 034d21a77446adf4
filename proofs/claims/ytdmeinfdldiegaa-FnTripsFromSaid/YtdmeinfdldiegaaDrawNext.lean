/- What the reference's draws for the next and the last trip answer. No condition. -/
import Derived.Test.YtdmeinfdldiegaaDrawAnyNet
namespace Go.Proofs.Ytdmeinfdldiegaa
open Go.RowKit Go.PlainAid
set_option maxRecDepth 100000
set_option linter.unusedVariables false
set_option maxHeartbeats 1600000 in
theorem time_any (C : Nat) (w : World) (hc : Cur C w) : Calls Try.prog 43 #[.pointer (some ⟨C, 0, none⟩)] w fun e w' => ∃ x : Int, e = .returned (.int .i64 x) ∧ okI x ∧ Cur C w' ∧ Saves C w w' := by
  go_enter Try.func43, Try.ntmps43
  go_wp2_with fail
  refine (once_any C 8 _ hc (by unfold okI; omega)).mono ?_
  rintro e w1 ⟨u, rfl, c1, s1⟩
  cases u
  · go_wp2_with fail
    refine (below_any C 500 _ c1 (by unfold okI; omega)).mono ?_
    rintro e w2 ⟨x, rfl, x0, x1, x2, c2, s2⟩
    have x3 := x2 (by omega)
    clear x1 x2
    go_wp2_with fail
    go_ret
    exact ⟨_, rfl, by unfold okI; omega, c2, s1.trans s2⟩
  · go_wp2_with fail
    refine (odd_any C _ c1).mono ?_
    rintro e w2 ⟨x, rfl, ox, c2, s2⟩
    go_wp2_with fail
    go_ret
    exact ⟨_, rfl, ox, c2, s1.trans s2⟩
theorem Saves.belT {C : Nat} {a b : World} (h : Saves C a b) {w : World} (h0 : Below w.heap.size w a) (h1 : w.heap.size ≤ C) : Below w.heap.size w b := h0.trans (h.below h1 h0.size)
theorem slice_savesT {α : Type} {C : Nat} {w w' : World} {size : Nat} {vals : α → List Value} {v : Value} {xs : List α} (h : SliceOf w size vals v xs) (s : Saves C w w') (hb : ∀ b off n c, v = .slice (some ⟨b, off, none⟩) n c → b ≠ C) : SliceOf w' size vals v xs := by
  obtain ⟨A', c', rfl, h1, h2, h3⟩ := h
  refine ⟨A', c', rfl, h1, h2, fun hn => ?_⟩
  obtain ⟨b', off', rfl, hlt, hc⟩ := h3 hn
  exact ⟨b', off', rfl, Nat.lt_of_lt_of_le hlt s.size, fun k x j u hx hu => (s.cell (p := ⟨b', _, none⟩) hlt (hb _ _ _ _ rfl)).trans (hc k x j u hx hu)⟩
/-- A drawn network, a leg's number and a time. -/
def NextD (w : World) (e : Ending) (w' : World) : Prop := ∃ (A Ao : Option Addr) (cl co : Nat) (legs : List LegD) (off : List Int) (ch leg q : Int), e = .returned (.tuple #[.agg #[.slice A legs.length cl, .slice Ao off.length co, .int .i64 ch], .int .i64 leg, .int .i64 q]) ∧
  SliceOf w' 6 LegD.vals (.slice A legs.length cl) legs ∧ (∀ x ∈ legs, x.ok) ∧ SliceOf w' 1 vI (.slice Ao off.length co) off ∧ (∀ x ∈ off, okI x) ∧ okI ch ∧ okI leg ∧ okI q ∧ Below w.heap.size w w' ∧
  (∀ b off, A = some ⟨b, off, none⟩ → w.heap.size ≤ b) ∧ (∀ b off, Ao = some ⟨b, off, none⟩ → w.heap.size ≤ b)
end Go.Proofs.Ytdmeinfdldiegaa
