/- What the reference's draw of a leg answers. No condition. -/
import Derived.Test.YtdmeinfdldiegaaLabDraw
import Derived.Test.YtdmeinfdldiegaaBoxes
import Derived.Test.YtdmeinfdldiegaaOwn
import Derived.Deep.LoopGhost
namespace Go.Proofs.Ytdmeinfdldiegaa
open Go.RowKit Go.PlainAid
set_option maxRecDepth 100000
set_option linter.unusedVariables false
def toNames : List ByteArray := [⟨#[65, 77, 83]⟩, ⟨#[66, 82, 85]⟩, ⟨#[67, 68, 71]⟩]
def takeNums : List Int := [1, 1440, 4320]
theorem takeNums_ok : ∀ x ∈ takeNums, 0 ≤ x ∧ x ≤ 4320 := by unfold takeNums; decide
theorem to_places {s : ByteArray} (h : s ∈ toNames) : s ∈ placeNames := by
  unfold toNames at h
  simp only [List.mem_cons, List.not_mem_nil, or_false] at h
  rcases h with rfl | rfl | rfl <;> simp [placeNames]
theorem place_size {s : ByteArray} (h : s ∈ placeNames) : s.size ≤ 3 := by
  have : ∀ t ∈ placeNames, t.size ≤ 3 := by unfold placeNames; decide
  exact this s h
theorem dub_place : (⟨#[68, 85, 66]⟩ : ByteArray) ∈ placeNames := by simp [placeNames]
theorem dub_not {s : ByteArray} (h : s ∈ toNames) : ((⟨#[68, 85, 66]⟩ : ByteArray).toList == s.toList) = false := by
  unfold toNames at h
  simp only [List.mem_cons, List.not_mem_nil, or_false] at h
  rcases h with rfl | rfl | rfl <;> decide +kernel
theorem Box.keepB {w w' : World} {g B : Nat} {t : TypeId} {cs : Array Value} (h : Box w g t cs) (b : Below B w w') (hg : g < B) : Box w' g t cs := (b.block g hg).trans h
theorem curN_drew {C : Nat} {w : World} (h : Cur C w) : Cur C w.drew := h.keep (Below.refl _ _).drew
theorem savesN_drew {C : Nat} {a w : World} (h : Saves C a w) : Saves C a w.drew := h.drew
/-- A number below n, asked for in a region that began at w0. -/
theorem belowN_at {C : Nat} {w0 Q : World} (n : Nat) (hn : 0 < n) (hn2 : n ≤ 1000000) (hc : Cur C Q) (hs : Saves C w0 Q) : Calls Try.prog 45 #[.pointer (some ⟨C, 0, none⟩), .int .i64 (n : Int)] Q fun e w' => ∃ i : Nat, e = .returned (.int .i64 (i : Int)) ∧ i < n ∧ Cur C w' ∧ Saves C w0 w' ∧ Saves C Q w' :=
  (below_any C (n : Int) Q hc (by unfold okI; omega)).mono fun e w' ⟨x, he, x0, _, x2, c1, s1⟩ => by
    obtain ⟨i, rfl⟩ := Int.eq_ofNat_of_zero_le x0
    exact ⟨i, he, by have := x2 (by omega); omega, c1, hs.trans s1, s1⟩
theorem intN_at {C : Nat} {w0 Q : World} {xs : List Int} {bb n c : Nat} (hc : Cur C Q) (hs : Saves C w0 Q) (hx : ∀ x ∈ xs, okI x) (h0 : 0 < xs.length) (h : SliceOf Q 1 vI (.slice (some ⟨bb, 0, none⟩) n c) xs) (hb : bb ≠ C) : Calls Try.prog 44 #[.pointer (some ⟨C, 0, none⟩), .slice (some ⟨bb, 0, none⟩) n c] Q fun e w' => ∃ x : Int, e = .returned (.int .i64 x) ∧ okI x ∧ Cur C w' ∧ Saves C w0 w' ∧ Saves C Q w' :=
  (int_any C xs _ Q hc hx h0 h (fun b off n c hv => by injection hv with e1 e2 e3; injection e1 with e1; injection e1 with e1 e2; omega)).mono fun e w' ⟨x, he, hm, c1, s1⟩ => ⟨x, he, hx x hm, c1, hs.trans s1, s1⟩
/-- What a drawn leg is like. -/
def LegD.small (x : LegD) : Prop := x.src ∈ placeNames ∧ x.dst ∈ placeNames ∧ (0 ≤ x.start ∧ x.start ≤ 1439) ∧ (0 ≤ x.takes ∧ x.takes ≤ 4320) ∧ (0 ≤ x.days ∧ x.days ≤ 127) ∧ (0 ≤ x.room ∧ x.room ≤ 59000)
theorem LegD.small.ok {x : LegD} (h : x.small) : x.ok := by
  obtain ⟨h1, h2, h3, h4, h5, h6⟩ := h
  have := place_size h1
  have := place_size h2
  unfold LegD.ok okI maxLen
  exact ⟨by omega, by omega, by omega, by omega, by omega, by omega⟩
def LegP (C : Nat) (w : World) (e : Ending) (w' : World) : Prop := ∃ (f t : ByteArray) (a b c d : Int), e = .returned (.agg #[.string f, .string t, .int .i64 a, .int .i64 b, .int .i64 c, .int .i64 d]) ∧ (LegD.mk f t a b c d).small ∧ Cur C w' ∧ Saves C w w'
set_option maxHeartbeats 6400000 in
theorem leg_any (C : Nat) (w : World) (hc : Cur C w) : Calls Try.prog 60 #[.pointer (some ⟨C, 0, none⟩)] w (LegP C w) := by
  have lt := hc.lt
  go_enter Try.func60, Try.ntmps60
  go_wp2_with fail
  obtain ⟨W, hW⟩ : ∃ W, W = w.alloc (.cells #[.string ⟨#[]⟩, .string ⟨#[]⟩, .int .i64 0, .int .i64 0, .int .i64 0, .int .i64 0] 47) := ⟨_, rfl⟩
  rw [← hW]
  have P : Box W w.heap.size 47 #[.string ⟨#[]⟩, .string ⟨#[]⟩, .int .i64 0, .int .i64 0, .int .i64 0, .int .i64 0] := by rw [hW]; exact Box.new _ _ _
  have bW : Below w.heap.size w W := by rw [hW]; go_grown
  clear hW
  have S0 : Saves C w W := Saves.of_below bW
  refine (place_any C _ (hc.keep bW)).mono ?_
  rintro e w1 ⟨f0, rfl, of0, c1, s1⟩
  replace P := P.saves s1 (by omega)
  have S1 := S0.trans s1
  go_wp2_with fail
  refine (place_any C _ c1).mono ?_
  rintro e w2 ⟨t0, rfl, ot0, c2, s2⟩
  replace P := P.saves s2 (by omega)
  have S2 := S1.trans s2
  go_wp2_with fail
  refine (below_any C 48 _ c2 (by unfold okI; omega)).mono ?_
  rintro e w3 ⟨a, rfl, a0, a1, a2, c3, s3⟩
  have alt := a2 (by omega)
  replace P := P.saves s3 (by omega)
  have S3 := S2.trans s3
  clear a1 a2
  go_wp2_with fail
  refine (below_any C 40 _ c3 (by unfold okI; omega)).mono ?_
  rintro e w4 ⟨b, rfl, b0, b1, b2, c4, s4⟩
  have blt := b2 (by omega)
  replace P := P.saves s4 (by omega)
  have S4 := S3.trans s4
  clear b1 b2
  go_wp2_with fail
  refine (below_any C 127 _ c4 (by unfold okI; omega)).mono ?_
  rintro e w5 ⟨c, rfl, c0, c1, c2, c5, s5⟩
  have clt := c2 (by omega)
  replace P := P.saves s5 (by omega)
  have S5 := S4.trans s5
  clear c1 c2
  go_wp2_with fail
  refine (below_any C 60 _ c5 (by unfold okI; omega)).mono ?_
  rintro e w6 ⟨d, rfl, d0, d1, d2, c6, s6⟩
  have dlt := d2 (by omega)
  replace P := P.saves s6 (by omega)
  have S6 := S5.trans s6
  clear d1 d2
  go_wp2_with fail
  obtain ⟨V, hV⟩ : ∃ V, V = w6.alloc (.cells #[.string f0, .string t0, .int .i64 (30 * a), .int .i64 (30 * (1 + b)), .int .i64 (1 + c), .int .i64 (1000 * d)] 47) := ⟨_, rfl⟩
  rw [← hV]
  obtain ⟨g, hg⟩ : ∃ g, g = w6.heap.size := ⟨_, rfl⟩
  rw [← hg]
  have Q : Box V g 47 #[.string f0, .string t0, .int .i64 (30 * a), .int .i64 (30 * (1 + b)), .int .i64 (1 + c), .int .i64 (1000 * d)] := by rw [hV, hg]; exact Box.new _ _ _
  have bV : Below w6.heap.size w6 V := by rw [hV]; go_grown
  have lP6 := P.lt
  have gP : w.heap.size < g := by omega
  have gC : C < g := by omega
  replace P := P.keep bV
  have SV := S6.trans (Saves.of_below bV)
  have cV := c6.keep bV
  have lgV : g < V.heap.size := Q.lt
  clear hV bV hg lP6 c1 c2 c3 c4 c5 c6 s1 s2 s3 s4 s5 s6 S0 S1 S2 S3 S4 S5 S6 bW
  go_loopg [] 1 (fun k wr => ∃ (f t : ByteArray), f ∈ placeNames ∧ t ∈ placeNames ∧ (k = 0 → (f.toList == t.toList) = false) ∧ Box wr g 47 #[.string f, .string t, .int .i64 (30 * a), .int .i64 (30 * (1 + b)), .int .i64 (1 + c), .int .i64 (1000 * d)] ∧ Box wr w.heap.size 47 #[.string ⟨#[]⟩, .string ⟨#[]⟩, .int .i64 0, .int .i64 0, .int .i64 0, .int .i64 0] ∧ Cur C wr ∧ Saves C w wr)
  case atStart => exact ⟨f0, t0, of0, ot0, fun h => by omega, Q, P, cV, SV⟩
  case round =>
    clear Q P cV SV lgV of0 ot0
    obtain ⟨f, t, of, ot, hk, Q, P, cV, SV⟩ := hrel
    have q0 : wr.cell? ⟨g, 0, none⟩ = some (.string f) := Q.cell 0
    have q1 : wr.cell? ⟨g, 1, none⟩ = some (.string t) := Q.cell 1
    have lg := Q.lt
    cases e0 : (f.toList == t.toList)
    · clear hk lg
      go_wp2_with fail
      have nPQ : ¬ w.heap.size = g := by omega
      have nQP : ¬ g = w.heap.size := by omega
      refine (once_any C 2 _ cV (by unfold okI; omega)).mono ?_
      rintro e w7 ⟨u, rfl, c7, s7⟩
      replace P := P.saves s7 (by omega)
      replace Q := Q.saves s7 (by omega)
      have S7 := SV.trans s7
      clear cV SV s7 e0 q0 q1
      cases u
      · go_wp2_with fail
        refine (once_any C 9 _ c7 (by unfold okI; omega)).mono ?_
        rintro e w8 ⟨u2, rfl, c8, s8⟩
        replace P := P.saves s8 (by omega)
        replace Q := Q.saves s8 (by omega)
        have S8 := S7.trans s8
        clear c7 s8 S7
        cases u2
        · skip
          have p0 : w8.cell? ⟨w.heap.size, 0, none⟩ = some (.string ⟨#[]⟩) := P.cell 0
          have p1 : w8.cell? ⟨w.heap.size, 1, none⟩ = some (.string ⟨#[]⟩) := P.cell 1
          have p2 : w8.cell? ⟨w.heap.size, 2, none⟩ = some (.int .i64 0) := P.cell 2
          have p3 : w8.cell? ⟨w.heap.size, 3, none⟩ = some (.int .i64 0) := P.cell 3
          have p4 : w8.cell? ⟨w.heap.size, 4, none⟩ = some (.int .i64 0) := P.cell 4
          have p5 : w8.cell? ⟨w.heap.size, 5, none⟩ = some (.int .i64 0) := P.cell 5
          have pf : ∀ j, w8.frozen? ⟨w.heap.size, j, none⟩ = false := fun j => P.frozen j
          have q0 : w8.cell? ⟨g, 0, none⟩ = some (.string f) := Q.cell 0
          have q1 : w8.cell? ⟨g, 1, none⟩ = some (.string t) := Q.cell 1
          have q2 : w8.cell? ⟨g, 2, none⟩ = some (.int .i64 (30 * a)) := Q.cell 2
          have q3 : w8.cell? ⟨g, 3, none⟩ = some (.int .i64 (30 * (1 + b))) := Q.cell 3
          have q4 : w8.cell? ⟨g, 4, none⟩ = some (.int .i64 (1 + c)) := Q.cell 4
          have q5 : w8.cell? ⟨g, 5, none⟩ = some (.int .i64 (1000 * d)) := Q.cell 5
          have qf : ∀ j, w8.frozen? ⟨g, j, none⟩ = false := fun j => Q.frozen j
          have HC := Lib.hid c8; have HS := Lib.hid S8
          clear c8 S8
          go_wp2_with fail
          refine bodyPost_ret (v := .agg #[.string f, .string t, .int .i64 (30 * a), .int .i64 (30 * (1 + b)), .int .i64 (1 + c), .int .i64 (1000 * d)]) (by simp [results, Try.results60, go_sem, p0, p1, p2, p3, p4, p5]) rfl ⟨f, t, (30 * a), (30 * (1 + b)), (1 + c), (1000 * d), rfl, ⟨of, ot, ⟨by simp only; omega, by simp only; omega⟩, ⟨by simp only; omega, by simp only; omega⟩, ⟨by simp only; omega, by simp only; omega⟩, ⟨by simp only; omega, by simp only; omega⟩⟩, ?_, ?_⟩
          · repeat' (first | with_reducible exact HC.out | with_reducible refine Cur.setB ?_ ?_ _ | (simp only; omega))
          · repeat' (first | with_reducible exact HS.out | with_reducible refine Saves.setNew ?_ ?_ _ | (simp only; omega))
        · go_wp2_with fail
          have hS := lit_slice (f := Value.int .i64) (vals := vI) (fun _ => rfl) takeNums 3 w8 #[.int .i64 1, .int .i64 1440, .int .i64 4320] rfl (by decide)
          have bS : Below w8.heap.size w8 (w8.alloc (.cells #[.int .i64 1, .int .i64 1440, .int .i64 4320] 3)) := by go_grown
          refine (int_any C takeNums _ _ (c8.keep bS) (fun x hx => by have := takeNums_ok x hx; unfold okI; omega) (by decide) hS (fun b off n c hv => by have := c8.lt; injection hv with e1 e2 e3; injection e1 with e1; injection e1 with e1 e2; omega)).mono ?_
          rintro e w9 ⟨nn, rfl, hnn, c9, s9⟩
          have hn2 := takeNums_ok nn hnn
          replace P := (P.keep bS).saves s9 (by omega)
          replace Q := (Q.keep bS).saves s9 (by omega)
          have S9 := (S8.trans (Saves.of_below bS)).trans s9
          clear c8 s9 S8 hS bS hnn
          skip
          have p0 : w9.cell? ⟨w.heap.size, 0, none⟩ = some (.string ⟨#[]⟩) := P.cell 0
          have p1 : w9.cell? ⟨w.heap.size, 1, none⟩ = some (.string ⟨#[]⟩) := P.cell 1
          have p2 : w9.cell? ⟨w.heap.size, 2, none⟩ = some (.int .i64 0) := P.cell 2
          have p3 : w9.cell? ⟨w.heap.size, 3, none⟩ = some (.int .i64 0) := P.cell 3
          have p4 : w9.cell? ⟨w.heap.size, 4, none⟩ = some (.int .i64 0) := P.cell 4
          have p5 : w9.cell? ⟨w.heap.size, 5, none⟩ = some (.int .i64 0) := P.cell 5
          have pf : ∀ j, w9.frozen? ⟨w.heap.size, j, none⟩ = false := fun j => P.frozen j
          have q0 : w9.cell? ⟨g, 0, none⟩ = some (.string f) := Q.cell 0
          have q1 : w9.cell? ⟨g, 1, none⟩ = some (.string t) := Q.cell 1
          have q2 : w9.cell? ⟨g, 2, none⟩ = some (.int .i64 (30 * a)) := Q.cell 2
          have q3 : w9.cell? ⟨g, 3, none⟩ = some (.int .i64 (30 * (1 + b))) := Q.cell 3
          have q4 : w9.cell? ⟨g, 4, none⟩ = some (.int .i64 (1 + c)) := Q.cell 4
          have q5 : w9.cell? ⟨g, 5, none⟩ = some (.int .i64 (1000 * d)) := Q.cell 5
          have qf : ∀ j, w9.frozen? ⟨g, j, none⟩ = false := fun j => Q.frozen j
          have HC := Lib.hid c9; have HS := Lib.hid S9
          clear c9 S9
          go_wp2_with fail
          refine bodyPost_ret (v := .agg #[.string f, .string t, .int .i64 (30 * a), .int .i64 nn, .int .i64 (1 + c), .int .i64 (1000 * d)]) (by simp [results, Try.results60, go_sem, p0, p1, p2, p3, p4, p5]) rfl ⟨f, t, (30 * a), nn, (1 + c), (1000 * d), rfl, ⟨of, ot, ⟨by simp only; omega, by simp only; omega⟩, ⟨by simp only; omega, by simp only; omega⟩, ⟨by simp only; omega, by simp only; omega⟩, ⟨by simp only; omega, by simp only; omega⟩⟩, ?_, ?_⟩
          · repeat' (first | with_reducible exact HC.out | with_reducible refine Cur.setB ?_ ?_ _ | (simp only; omega))
          · repeat' (first | with_reducible exact HS.out | with_reducible refine Saves.setNew ?_ ?_ _ | (simp only; omega))
      · have qq : w7.cell? ⟨g, 4, none⟩ = some (.int .i64 (1 + c)) := Q.cell 4
        have qf : w7.frozen? ⟨g, 4, none⟩ = false := Q.frozen 4
        go_wp2_with fail
        clear qq qf
        obtain ⟨w8, hX⟩ : ∃ X, X = w7.setCell ⟨g, 4, none⟩ (.int .i64 127) := ⟨_, rfl⟩
        rw [← hX]
        replace Q : Box w8 g 47 #[.string f, .string t, .int .i64 (30 * a), .int .i64 (30 * (1 + b)), .int .i64 127, .int .i64 (1000 * d)] := by rw [hX]; exact Q.set 4 _
        replace P : Box w8 w.heap.size 47 #[.string ⟨#[]⟩, .string ⟨#[]⟩, .int .i64 0, .int .i64 0, .int .i64 0, .int .i64 0] := by rw [hX]; exact P.far (by simp only; omega) _
        have c8 : Cur C w8 := by rw [hX]; exact c7.setB (by simp only; omega) _
        have S8 : Saves C w w8 := by rw [hX]; exact S7.setNew (by simp only; omega) _
        clear hX c7 S7
        refine (once_any C 9 _ c8 (by unfold okI; omega)).mono ?_
        rintro e w9 ⟨u2, rfl, c9, s9⟩
        replace P := P.saves s9 (by omega)
        replace Q := Q.saves s9 (by omega)
        have S9 := S8.trans s9
        clear c8 s9 S8
        cases u2
        · skip
          have p0 : w9.cell? ⟨w.heap.size, 0, none⟩ = some (.string ⟨#[]⟩) := P.cell 0
          have p1 : w9.cell? ⟨w.heap.size, 1, none⟩ = some (.string ⟨#[]⟩) := P.cell 1
          have p2 : w9.cell? ⟨w.heap.size, 2, none⟩ = some (.int .i64 0) := P.cell 2
          have p3 : w9.cell? ⟨w.heap.size, 3, none⟩ = some (.int .i64 0) := P.cell 3
          have p4 : w9.cell? ⟨w.heap.size, 4, none⟩ = some (.int .i64 0) := P.cell 4
          have p5 : w9.cell? ⟨w.heap.size, 5, none⟩ = some (.int .i64 0) := P.cell 5
          have pf : ∀ j, w9.frozen? ⟨w.heap.size, j, none⟩ = false := fun j => P.frozen j
          have q0 : w9.cell? ⟨g, 0, none⟩ = some (.string f) := Q.cell 0
          have q1 : w9.cell? ⟨g, 1, none⟩ = some (.string t) := Q.cell 1
          have q2 : w9.cell? ⟨g, 2, none⟩ = some (.int .i64 (30 * a)) := Q.cell 2
          have q3 : w9.cell? ⟨g, 3, none⟩ = some (.int .i64 (30 * (1 + b))) := Q.cell 3
          have q4 : w9.cell? ⟨g, 4, none⟩ = some (.int .i64 127) := Q.cell 4
          have q5 : w9.cell? ⟨g, 5, none⟩ = some (.int .i64 (1000 * d)) := Q.cell 5
          have qf : ∀ j, w9.frozen? ⟨g, j, none⟩ = false := fun j => Q.frozen j
          have HC := Lib.hid c9; have HS := Lib.hid S9
          clear c9 S9
          go_wp2_with fail
          refine bodyPost_ret (v := .agg #[.string f, .string t, .int .i64 (30 * a), .int .i64 (30 * (1 + b)), .int .i64 127, .int .i64 (1000 * d)]) (by simp [results, Try.results60, go_sem, p0, p1, p2, p3, p4, p5]) rfl ⟨f, t, (30 * a), (30 * (1 + b)), 127, (1000 * d), rfl, ⟨of, ot, ⟨by simp only; omega, by simp only; omega⟩, ⟨by simp only; omega, by simp only; omega⟩, ⟨by simp only; omega, by simp only; omega⟩, ⟨by simp only; omega, by simp only; omega⟩⟩, ?_, ?_⟩
          · repeat' (first | with_reducible exact HC.out | with_reducible refine Cur.setB ?_ ?_ _ | (simp only; omega))
          · repeat' (first | with_reducible exact HS.out | with_reducible refine Saves.setNew ?_ ?_ _ | (simp only; omega))
        · go_wp2_with fail
          have hS := lit_slice (f := Value.int .i64) (vals := vI) (fun _ => rfl) takeNums 3 w9 #[.int .i64 1, .int .i64 1440, .int .i64 4320] rfl (by decide)
          have bS : Below w9.heap.size w9 (w9.alloc (.cells #[.int .i64 1, .int .i64 1440, .int .i64 4320] 3)) := by go_grown
          refine (int_any C takeNums _ _ (c9.keep bS) (fun x hx => by have := takeNums_ok x hx; unfold okI; omega) (by decide) hS (fun b off n c hv => by have := c9.lt; injection hv with e1 e2 e3; injection e1 with e1; injection e1 with e1 e2; omega)).mono ?_
          rintro e w10 ⟨nn, rfl, hnn, c10, s10⟩
          have hn2 := takeNums_ok nn hnn
          replace P := (P.keep bS).saves s10 (by omega)
          replace Q := (Q.keep bS).saves s10 (by omega)
          have S10 := (S9.trans (Saves.of_below bS)).trans s10
          clear c9 s10 S9 hS bS hnn
          skip
          have p0 : w10.cell? ⟨w.heap.size, 0, none⟩ = some (.string ⟨#[]⟩) := P.cell 0
          have p1 : w10.cell? ⟨w.heap.size, 1, none⟩ = some (.string ⟨#[]⟩) := P.cell 1
          have p2 : w10.cell? ⟨w.heap.size, 2, none⟩ = some (.int .i64 0) := P.cell 2
          have p3 : w10.cell? ⟨w.heap.size, 3, none⟩ = some (.int .i64 0) := P.cell 3
          have p4 : w10.cell? ⟨w.heap.size, 4, none⟩ = some (.int .i64 0) := P.cell 4
          have p5 : w10.cell? ⟨w.heap.size, 5, none⟩ = some (.int .i64 0) := P.cell 5
          have pf : ∀ j, w10.frozen? ⟨w.heap.size, j, none⟩ = false := fun j => P.frozen j
          have q0 : w10.cell? ⟨g, 0, none⟩ = some (.string f) := Q.cell 0
          have q1 : w10.cell? ⟨g, 1, none⟩ = some (.string t) := Q.cell 1
          have q2 : w10.cell? ⟨g, 2, none⟩ = some (.int .i64 (30 * a)) := Q.cell 2
          have q3 : w10.cell? ⟨g, 3, none⟩ = some (.int .i64 (30 * (1 + b))) := Q.cell 3
          have q4 : w10.cell? ⟨g, 4, none⟩ = some (.int .i64 127) := Q.cell 4
          have q5 : w10.cell? ⟨g, 5, none⟩ = some (.int .i64 (1000 * d)) := Q.cell 5
          have qf : ∀ j, w10.frozen? ⟨g, j, none⟩ = false := fun j => Q.frozen j
          have HC := Lib.hid c10; have HS := Lib.hid S10
          clear c10 S10
          go_wp2_with fail
          refine bodyPost_ret (v := .agg #[.string f, .string t, .int .i64 (30 * a), .int .i64 nn, .int .i64 127, .int .i64 (1000 * d)]) (by simp [results, Try.results60, go_sem, p0, p1, p2, p3, p4, p5]) rfl ⟨f, t, (30 * a), nn, 127, (1000 * d), rfl, ⟨of, ot, ⟨by simp only; omega, by simp only; omega⟩, ⟨by simp only; omega, by simp only; omega⟩, ⟨by simp only; omega, by simp only; omega⟩, ⟨by simp only; omega, by simp only; omega⟩⟩, ?_, ?_⟩
          · repeat' (first | with_reducible exact HC.out | with_reducible refine Cur.setB ?_ ?_ _ | (simp only; omega))
          · repeat' (first | with_reducible exact HS.out | with_reducible refine Saves.setNew ?_ ?_ _ | (simp only; omega))
    · have hk1 : gk ≠ 0 := fun h => by rw [hk h] at e0; cases e0
      clear hk
      go_wp2_with fail
      have hS := lit_slice (f := Value.string) (vals := vS) (fun _ => rfl) toNames 9 wr #[.string ⟨#[65, 77, 83]⟩, .string ⟨#[66, 82, 85]⟩, .string ⟨#[67, 68, 71]⟩] rfl (by decide)
      have bS : Below wr.heap.size wr (wr.alloc (.cells #[.string ⟨#[65, 77, 83]⟩, .string ⟨#[66, 82, 85]⟩, .string ⟨#[67, 68, 71]⟩] 9)) := by go_grown
      refine (str_any C toNames _ _ (cV.keep bS) (by decide) hS (fun b off n c hv => by have := cV.lt; injection hv with e1 e2 e3; injection e1 with e1; injection e1 with e1 e2; omega)).mono ?_
      rintro e w7 ⟨u, rfl, ou, c7, s7⟩
      replace P := (P.keep bS).saves s7 (by omega)
      replace Q := (Q.keep bS).saves s7 (by omega)
      have S7 := (SV.trans (Saves.of_below bS)).trans s7
      clear cV s7 SV hS bS q0 q1 lg e0
      have nPQ : ¬ w.heap.size = g := by omega
      have q0 : w7.cell? ⟨g, 0, none⟩ = some (.string f) := Q.cell 0
      have q1 : w7.cell? ⟨g, 1, none⟩ = some (.string t) := Q.cell 1
      have qf : ∀ j, w7.frozen? ⟨g, j, none⟩ = false := fun j => Q.frozen j
      have HC := Lib.hid c7; have HS := Lib.hid S7
      clear c7 S7
      cases e1 : (f.toList == u.toList)
      · have E1 := Lib.hid e1
        go_wp2_with fail
        go_roundg 0
        case rel =>
          refine ⟨f, u, of, to_places ou, fun _ => E1.out, ?_, ?_, ?_, ?_⟩
          · exact Q.set 1 _
          · exact P.far (by simp only; omega) _
          · exact HC.out.setB (by simp only; omega) _
          · exact HS.out.setNew (by simp only; omega) _
        case measure => omega
      · have E1 := Lib.hid e1
        have hd := dub_not ou
        have HD := Lib.hid hd; clear hd
        go_wp2_with fail
        go_roundg 0
        case rel =>
          refine ⟨_, u, dub_place, to_places ou, fun _ => HD.out, ?_, ?_, ?_, ?_⟩
          · exact (Q.set 1 _).set 0 _
          · exact (P.far (by simp only; omega) _).far (by simp only; omega) _
          · exact (HC.out.setB (by simp only; omega) _).setB (by simp only; omega) _
          · exact (HS.out.setNew (by simp only; omega) _).setNew (by simp only; omega) _
        case measure => omega
end Go.Proofs.Ytdmeinfdldiegaa
