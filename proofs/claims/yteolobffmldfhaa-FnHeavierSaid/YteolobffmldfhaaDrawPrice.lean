/- What the reference's draw of zones, rates and a parcel answers. No condition. -/
import Derived.Test.YteolobffmldfhaaDrawZone
import Derived.Test.YteolobffmldfhaaDrawAnyRates
import Derived.Test.YteolobffmldfhaaDrawFits
namespace Go.Proofs.Yteolobffmldfhaa
open Go.RowKit Go.PlainAid
set_option maxRecDepth 100000
set_option linter.unusedVariables false
theorem own_setR {α : Type} {w : World} {base size : Nat} {e : TypeId} {vals : α → List Value} {v : Value} {xs : List α} {p : Addr} (h : Own w base e size vals v xs) (hp : p.block < base) (u : Value) : Own (w.setCell p u) base e size vals v xs :=
  ownsRow_setCell_below h hp u
theorem own_away {α : Type} {w : World} {base size : Nat} {e : TypeId} {vals : α → List Value} {v : Value} {xs : List α} (h : Own w base e size vals v xs) : ∀ b off n c, v = .slice (some ⟨b, off, none⟩) n c → base ≤ b := fun b off n c e => by subst e; exact own_block h
def PriD (w : World) (e : Ending) (w' : World) : Prop := ∃ (vz : Value) (zs : List ZoneD) (vr : Value) (rs : List RateD) (a b : Int) (t f : ByteArray) (wt : Int) (A : Option Addr) (c : Nat) (xs : List Int) (vl : Int), e = .returned (.tuple #[vz, vr, .agg #[.int .i64 a, .int .i64 b, .string t, .string f, .int .i64 wt, .slice A xs.length c, .int .i64 vl]]) ∧
  SliceOf w' 2 ZoneD.vals vz zs ∧ (∀ z ∈ zs, z.ok) ∧ SliceOf w' 4 RateD.vals vr rs ∧ (∀ r ∈ rs, r.ok) ∧ okI a ∧ okI b ∧ t.size ≤ maxLen ∧ f.size ≤ maxLen ∧ okI wt ∧ SliceOf w' 1 vI (.slice A xs.length c) xs ∧ (∀ x ∈ xs, okI x) ∧ xs.length ≤ 4 ∧ okI vl ∧ Below w.heap.size w w' ∧ (∀ b off n c, vz = .slice (some ⟨b, off, none⟩) n c → w.heap.size ≤ b) ∧ (∀ b off n c, vr = .slice (some ⟨b, off, none⟩) n c → w.heap.size ≤ b) ∧ (∀ b off, A = some ⟨b, off, none⟩ → w.heap.size ≤ b)
set_option maxHeartbeats 6400000 in
theorem drawPrice_any (cs : List Int) (v : Value) (w : World) (h : SliceOf w 1 vB v cs) : Calls Try.prog 36 #[v] w (PriD w) := by
  obtain ⟨A0, c0, rfl, hle, hm⟩ := h.form
  go_enter Try.func36, Try.ntmps36
  go_wp2_with fail
  obtain ⟨W, hW⟩ : ∃ W, W = w.alloc (.cells #[.int .i64 0, .int .i64 0, .string ⟨#[]⟩, .string ⟨#[]⟩, .int .i64 0, .slice none 0 0, .int .i64 0] 41) := ⟨_, rfl⟩
  rw [← hW]
  have P : Box W w.heap.size 41 #[.int .i64 0, .int .i64 0, .string ⟨#[]⟩, .string ⟨#[]⟩, .int .i64 0, .slice none 0 0, .int .i64 0] := by rw [hW]; exact Box.new _ _ _
  have bW : Below w.heap.size w W := by rw [hW]; go_grown
  have zW : W.heap.size = w.heap.size + 1 := by rw [hW]; simp
  clear hW
  refine (new_any cs _ _ (h.keep bW (Nat.le_refl _))).mono ?_
  rintro e w1 ⟨C, hC, rfl, c1, b1⟩
  replace P := P.keep b1
  have B1 := chain bW b1
  have lP := P.lt
  have lt1 := c1.lt
  go_wp2_with fail
  refine (zones_any C _ c1).mono ?_
  rintro e w2 ⟨vz, zs, rfl, oz, lz, kz, c2, s2⟩
  obtain ⟨Az, cz, rfl, -, -⟩ := oz.form
  replace P := P.saves s2 (by omega)
  have B2 := s2.belD B1 (by omega)
  have z12 := s2.size
  go_wp2_with fail
  refine (rates_any C zs.length _ c2 (by omega)).mono ?_
  rintro e w3 ⟨vr, rfl, rs, orr, kr, c3, s3⟩
  replace P := P.saves s3 (by omega)
  have B3 := s3.belD B2 (by omega)
  have z23 := s3.size
  have oz3 := oz.savedR (by omega) s3
  go_wp2_with fail
  refine (once_any C 6 _ c3 (by unfold okI; omega)).mono ?_
  rintro e w4 ⟨u, rfl, c4, s4⟩
  replace P := P.saves s4 (by omega)
  have B4 := s4.belD B3 (by omega)
  have z34 := s4.size
  have oz4 := oz3.savedR (by omega) s4
  have or4 := orr.savedR (by omega) s4
  cases u
  · go_wp2_with fail
    refine (anyParcel_any C _ c4).mono ?_
    rintro e w9 ⟨a, b, t, f, wt, A, c, xs, vl, rfl, oa, ob, ot, of, ow, sx, hA, ox, hl4, ov, c9, s9⟩
    have O1 := oz4.savedR (by omega) s9
    have O2 := or4.savedR (by omega) s9
    replace P := P.saves s9 (by omega)
    have B9 := s9.belD B4 (by omega)
    have lP9 := P.lt
    have p0 : w9.cell? ⟨w.heap.size, 0, none⟩ = some (.int .i64 0) := P.cell 0
    have p1 : w9.cell? ⟨w.heap.size, 1, none⟩ = some (.int .i64 0) := P.cell 1
    have p2 : w9.cell? ⟨w.heap.size, 2, none⟩ = some (.string ⟨#[]⟩) := P.cell 2
    have p3 : w9.cell? ⟨w.heap.size, 3, none⟩ = some (.string ⟨#[]⟩) := P.cell 3
    have p4 : w9.cell? ⟨w.heap.size, 4, none⟩ = some (.int .i64 0) := P.cell 4
    have p5 : w9.cell? ⟨w.heap.size, 5, none⟩ = some (.slice none 0 0) := P.cell 5
    have p6 : w9.cell? ⟨w.heap.size, 6, none⟩ = some (.int .i64 0) := P.cell 6
    have pf : ∀ j, w9.frozen? ⟨w.heap.size, j, none⟩ = false := fun j => P.frozen j
    have hA2 : ∀ bb off, A = some ⟨bb, off, none⟩ → bb ≠ w.heap.size := fun bb off e => by have := hA bb off e; omega
    go_wp2_with fail
    refine bodyPost_ret (v := .tuple #[.slice Az zs.length cz, vr, .agg #[.int .i64 a, .int .i64 b, .string t, .string f, .int .i64 wt, .slice A xs.length c, .int .i64 vl]]) (by simp [results, Try.results36, go_sem, p0, p1, p2, p3, p4, p5, p6]) rfl ⟨_, zs, _, rs, _, _, _, _, _, A, c, xs, _, rfl, Own.slice (e := 91) Zone_len (by omega) (base := w.heap.size + 1) ?_, kz, Own.slice (e := 87) Rate_len (by omega) (base := w.heap.size + 1) ?_, kr.ok, oa, ob, ot, of, ow, ?_, ox, hl4, ov, ?_, fun b off n c e => by have := own_away O1 b off n c e; omega, fun b off n c e => by have := own_away O2 b off n c e; omega, fun b off e => by have := hA b off e; omega⟩
    · repeat' (first | with_reducible exact (O1.mono (by omega)) | with_reducible refine own_setR ?_ ?_ _ | (simp only; omega))
    · repeat' (first | with_reducible exact (O2.mono (by omega)) | with_reducible refine own_setR ?_ ?_ _ | (simp only; omega))
    · repeat' (first | with_reducible exact sx | with_reducible refine slice_set ?_ ?_ _ | exact hA2)
    · repeat' (first | with_reducible exact B9 | with_reducible refine Below.setCell ?_ ?_ _ | (simp only; omega))
  · go_wp2_with fail
    refine (anyZones_any C _ c4).mono ?_
    rintro e w5 ⟨vz5, zs5, rfl, oz5, lz5, kz5, c5, s5⟩
    obtain ⟨Az5, cz5, rfl, -, -⟩ := oz5.form
    replace P := P.saves s5 (by omega)
    have B5 := s5.belD B4 (by omega)
    have z45 := s5.size
    go_wp2_with fail
    refine (anyRates_any C zs5.length _ c5 (by omega)).mono ?_
    rintro e w6 ⟨vr6, rfl, rs6, or6, lr6, kr6, c6, s6⟩
    replace P := P.saves s6 (by omega)
    have B6 := s6.belD B5 (by omega)
    have z56 := s6.size
    have oz6 := oz5.savedR (by omega) s6
    go_wp2_with fail
    refine (anyParcel_any C _ c6).mono ?_
    rintro e w9 ⟨a, b, t, f, wt, A, c, xs, vl, rfl, oa, ob, ot, of, ow, sx, hA, ox, hl4, ov, c9, s9⟩
    have O1 := oz6.savedR (by omega) s9
    have O2 := or6.savedR (by omega) s9
    replace P := P.saves s9 (by omega)
    have B9 := s9.belD B6 (by omega)
    have lP9 := P.lt
    have p0 : w9.cell? ⟨w.heap.size, 0, none⟩ = some (.int .i64 0) := P.cell 0
    have p1 : w9.cell? ⟨w.heap.size, 1, none⟩ = some (.int .i64 0) := P.cell 1
    have p2 : w9.cell? ⟨w.heap.size, 2, none⟩ = some (.string ⟨#[]⟩) := P.cell 2
    have p3 : w9.cell? ⟨w.heap.size, 3, none⟩ = some (.string ⟨#[]⟩) := P.cell 3
    have p4 : w9.cell? ⟨w.heap.size, 4, none⟩ = some (.int .i64 0) := P.cell 4
    have p5 : w9.cell? ⟨w.heap.size, 5, none⟩ = some (.slice none 0 0) := P.cell 5
    have p6 : w9.cell? ⟨w.heap.size, 6, none⟩ = some (.int .i64 0) := P.cell 6
    have pf : ∀ j, w9.frozen? ⟨w.heap.size, j, none⟩ = false := fun j => P.frozen j
    have hA2 : ∀ bb off, A = some ⟨bb, off, none⟩ → bb ≠ w.heap.size := fun bb off e => by have := hA bb off e; omega
    go_wp2_with fail
    refine bodyPost_ret (v := .tuple #[.slice Az5 zs5.length cz5, vr6, .agg #[.int .i64 a, .int .i64 b, .string t, .string f, .int .i64 wt, .slice A xs.length c, .int .i64 vl]]) (by simp [results, Try.results36, go_sem, p0, p1, p2, p3, p4, p5, p6]) rfl ⟨_, zs5, _, rs6, _, _, _, _, _, A, c, xs, _, rfl, Own.slice (e := 91) Zone_len (by omega) (base := w.heap.size + 1) ?_, kz5, Own.slice (e := 87) Rate_len (by omega) (base := w.heap.size + 1) ?_, kr6, oa, ob, ot, of, ow, ?_, ox, hl4, ov, ?_, fun b off n c e => by have := own_away O1 b off n c e; omega, fun b off n c e => by have := own_away O2 b off n c e; omega, fun b off e => by have := hA b off e; omega⟩
    · repeat' (first | with_reducible exact (O1.mono (by omega)) | with_reducible refine own_setR ?_ ?_ _ | (simp only; omega))
    · repeat' (first | with_reducible exact (O2.mono (by omega)) | with_reducible refine own_setR ?_ ?_ _ | (simp only; omega))
    · repeat' (first | with_reducible exact sx | with_reducible refine slice_set ?_ ?_ _ | exact hA2)
    · repeat' (first | with_reducible exact B9 | with_reducible refine Below.setCell ?_ ?_ _ | (simp only; omega))
end Go.Proofs.Yteolobffmldfhaa
