/- What the reference's draws of sides and room, and of a parcel, answer. No condition. -/
import Derived.Test.YteolobffmldfhaaDrawAny
import Derived.Deep.RegionWith
namespace Go.Proofs.Yteolobffmldfhaa
open Go.RowKit Go.PlainAid
set_option maxRecDepth 100000
set_option linter.unusedVariables false
theorem okI_wrap (n : Int) : okI (IntKind.i64.wrap n) := by
  unfold okI
  rw [IntKind.wrap_i64]
  omega
/-- Three numbers in a row, whichever. -/
def TriS (w : World) (g : Nat) : Prop := ∃ ys : List Int, ys.length = 3 ∧ (∀ y ∈ ys, okI y) ∧ SliceOf w 1 vI (.slice (some ⟨g, 0, none⟩) 3 3) ys
theorem Tri.s {w : World} {g : Nat} {x y z : Int} (h : Tri w g x y z) (hx : okI x) (hy : okI y) (hz : okI z) : TriS w g :=
  ⟨[x, y, z], rfl, by intro u hu; simp at hu; rcases hu with rfl | rfl | rfl <;> assumption, h.slice⟩
theorem Tri.setS {w : World} {g n : Nat} {x y z v : Int} (h : Tri w g x y z) (hn : n < 3) (hx : okI x) (hy : okI y) (hz : okI z) (hv : okI v) : TriS (w.setCell ⟨g, n, none⟩ (.int .i64 v)) g := by
  obtain ⟨x1, y1, z1, T, ox, oy, oz⟩ := Tri.set_ (v := v) h hn
  refine T.s ?_ ?_ ?_
  · rcases ox with rfl | rfl <;> assumption
  · rcases oy with rfl | rfl <;> assumption
  · rcases oz with rfl | rfl <;> assumption
theorem Tri.int_ {w : World} {g n : Nat} {x y z : Int} (h : Tri w g x y z) (hn : n < 3) : (∃ u : Int, w.cell? ⟨g, n, none⟩ = some (.int .i64 u)) ∧ w.frozen? ⟨g, n, none⟩ = false := by
  refine ⟨?_, Box.frozen h n⟩
  rw [Box.cell h]
  rcases (show n = 0 ∨ n = 1 ∨ n = 2 by omega) with rfl | rfl | rfl <;> exact ⟨_, rfl⟩
theorem Saves.belD {C : Nat} {a b : World} (h : Saves C a b) {w : World} (h0 : Below w.heap.size w a) (h1 : w.heap.size ≤ C) : Below w.heap.size w b := h0.trans (h.below h1 h0.size)
theorem field_sides (a b : Int) (t f : ByteArray) (wt : Int) (A : Option Addr) (n c : Nat) (vl : Int) (w : World) : Sem.run Try.prog (Instr.field 41 (.agg #[.int .i64 a, .int .i64 b, .string t, .string f, .int .i64 wt, .slice A n c, .int .i64 vl]) 3) w = .ok (.slice A n c) w := by kernel_rfl
def FitD (w : World) (e : Ending) (w' : World) : Prop := ∃ (A : Option Addr) (c : Nat) (xs : List Int) (g : Nat), e = .returned (.tuple #[.slice A xs.length c, .slice (some ⟨g, 0, none⟩) 3 3]) ∧
  SliceOf w' 1 vI (.slice A xs.length c) xs ∧ (∀ x ∈ xs, okI x) ∧ TriS w' g ∧ Below w.heap.size w w'
def ParD (w : World) (e : Ending) (w' : World) : Prop := ∃ (a b : Int) (t f : ByteArray) (wt : Int) (A : Option Addr) (c : Nat) (xs : List Int) (vl : Int), e = .returned (.agg #[.int .i64 a, .int .i64 b, .string t, .string f, .int .i64 wt, .slice A xs.length c, .int .i64 vl]) ∧
  okI a ∧ okI b ∧ t.size ≤ maxLen ∧ f.size ≤ maxLen ∧ okI wt ∧ SliceOf w' 1 vI (.slice A xs.length c) xs ∧ (∀ x ∈ xs, okI x) ∧ xs.length ≤ 4 ∧ okI vl ∧ Below w.heap.size w w'
set_option maxHeartbeats 1600000 in
theorem drawParcel_any (cs : List Int) (v : Value) (w : World) (h : SliceOf w 1 vB v cs) : Calls Try.prog 33 #[v] w (ParD w) := by
  obtain ⟨A0, c0, rfl, hle, hm⟩ := h.form
  go_enter Try.func33, Try.ntmps33
  go_wp2_with fail
  obtain ⟨W, hW⟩ : ∃ W, W = w.alloc (.cells #[.int .i64 0, .int .i64 0, .string ⟨#[]⟩, .string ⟨#[]⟩, .int .i64 0, .slice none 0 0, .int .i64 0] 41) := ⟨_, rfl⟩
  rw [← hW]
  have P : Box W w.heap.size 41 #[.int .i64 0, .int .i64 0, .string ⟨#[]⟩, .string ⟨#[]⟩, .int .i64 0, .slice none 0 0, .int .i64 0] := by rw [hW]; exact Box.new _ _ _
  have bW : Below w.heap.size w W := by rw [hW]; go_grown
  have zW : W.heap.size = w.heap.size + 1 := by rw [hW]; simp
  clear hW
  refine (new_any cs _ _ (h.keep bW (Nat.le_refl _))).mono ?_
  rintro e w1 ⟨C, hC, rfl, c1, b1⟩
  replace P := P.keep b1
  have B1 := chain bW b1
  have lP := P.lt
  go_wp2_with fail
  refine (anyParcel_any C _ c1).mono ?_
  rintro e w2 ⟨a, b, t, f, wt, A, c, xs, vl, rfl, oa, ob, ot, of, ow, sx, hA, ox, hl4, ov, c2, s2⟩
  replace P := P.saves s2 (by omega)
  have B2 := s2.belD B1 (by omega)
  have p0 : w2.cell? ⟨w.heap.size, 0, none⟩ = some (.int .i64 0) := P.cell 0
  have p1 : w2.cell? ⟨w.heap.size, 1, none⟩ = some (.int .i64 0) := P.cell 1
  have p2 : w2.cell? ⟨w.heap.size, 2, none⟩ = some (.string ⟨#[]⟩) := P.cell 2
  have p3 : w2.cell? ⟨w.heap.size, 3, none⟩ = some (.string ⟨#[]⟩) := P.cell 3
  have p4 : w2.cell? ⟨w.heap.size, 4, none⟩ = some (.int .i64 0) := P.cell 4
  have p5 : w2.cell? ⟨w.heap.size, 5, none⟩ = some (.slice none 0 0) := P.cell 5
  have p6 : w2.cell? ⟨w.heap.size, 6, none⟩ = some (.int .i64 0) := P.cell 6
  have pf : ∀ j, w2.frozen? ⟨w.heap.size, j, none⟩ = false := fun j => P.frozen j
  have hA2 : ∀ bb off, A = some ⟨bb, off, none⟩ → bb ≠ w.heap.size := fun bb off e => by have := hA bb off e; omega
  go_wp2_with fail
  refine bodyPost_ret (v := .agg #[.int .i64 a, .int .i64 b, .string t, .string f, .int .i64 wt, .slice A xs.length c, .int .i64 vl]) (by simp [results, Try.results33, go_sem, p0, p1, p2, p3, p4, p5, p6]) rfl ⟨_, _, _, _, _, A, c, xs, _, rfl, oa, ob, ot, of, ow, ?_, ox, hl4, ov, ?_⟩
  · repeat' (first | with_reducible exact sx | with_reducible refine slice_set ?_ ?_ _ | exact hA2)
  · repeat' (first | with_reducible exact B2 | with_reducible refine Below.setCell ?_ ?_ _ | (simp only; omega))
theorem quietThree {xs : List Int} (h : xs.length = 3) : ∃ p q r, xs = [p, q, r] := by
  match xs, h with
  | [p, q, r], _ => exact ⟨p, q, r, rfl⟩
set_option maxHeartbeats 6400000 in
theorem drawFits_any (cs : List Int) (v : Value) (w : World) (h : SliceOf w 1 vB v cs) : Calls Try.prog 25 #[v] w (FitD w) := by
  obtain ⟨A0, c0, rfl, hle, hm⟩ := h.form
  go_enter Try.func25, Try.ntmps25
  go_wp2_with fail
  refine (new_any cs _ _ h).mono ?_
  rintro e w1 ⟨C, hC, rfl, c1, b1⟩
  have lt1 := c1.lt
  go_wp2_with fail
  refine (anyParcel_any C _ c1).mono ?_
  rintro e w2 ⟨a, b, t, f, wt, A, c, xs, vl, rfl, oa, ob, ot, of, ow, sx, hA, ox, hl4, ov, c2, s2⟩
  have B2 := s2.belD b1 hC
  have hA2 : ∀ bb off, A = some ⟨bb, off, none⟩ → bb ≠ C := fun bb off e => by have := hA bb off e; omega
  have lt2 := c2.lt
  have z12 := s2.size
  have fd := field_sides a b t f wt A xs.length c vl w2
  go_wp2_with fail
  clear fd
  refine (sides_any C _ c2).mono ?_
  rintro e w3 ⟨g, x, y, z, rfl, G, hg, hx, hy, hz, c3, s3⟩
  have B3 := s3.belD B2 hC
  replace sx := slice_savesA sx s3 hA2
  have lG := Box.lt G
  have ngC : g ≠ C := by omega
  have z23 := s3.size
  go_wp2_with fail
  refine (once_any C 2 _ c3 (by unfold okI; omega)).mono ?_
  rintro e w4 ⟨u, rfl, c4, s4⟩
  have B4 := s4.belD B3 hC
  replace sx := slice_savesA sx s4 hA2
  replace G : Tri w4 g x y z := Box.saves G s4 ngC
  have z34 := s4.size
  have hgw : w.heap.size ≤ g := by have := B2.size; omega
  cases u
  · go_wp2_with fail
    go_ret2
    exact ⟨A, c, xs, g, rfl, sx, ox, G.s (by unfold okI; omega) (by unfold okI; omega) (by unfold okI; omega), B4⟩
  by_cases h3 : xs.length = 3
  · obtain ⟨p, q, r, rfl⟩ := quietThree h3
    have hS3 := Lib.hid sx
    obtain ⟨A', c', e', hc1, hc2, hh⟩ := id sx
    injection e' with e1 e2 e3
    subst e1 e3
    obtain ⟨ga, off, rfl, hga, hcell⟩ := hh (by simp)
    have a0 : w4.cell? ⟨ga, off, none⟩ = some (.int .i64 p) := by simpa using hcell 0 p 0 _ rfl rfl
    have a1 : w4.cell? ⟨ga, off + 1, none⟩ = some (.int .i64 q) := by simpa using hcell 1 q 0 _ rfl rfl
    have a2 : w4.cell? ⟨ga, off + 2, none⟩ = some (.int .i64 r) := by simpa using hcell 2 r 0 _ rfl rfl
    clear sx hcell hh e2 h3
    have nga := hA2 ga off rfl
    have op : okI p := ox p (by simp)
    have oq : okI q := ox q (by simp)
    have or_ : okI r := ox r (by simp)
    simp only [List.length_cons, List.length_nil, Nat.zero_add] at hS3 ⊢
    have S44 := Saves.refl C w4
    have lt4 := c4.lt
    go_wp2_with fail
    go_region_held3 (fun R => R.cell? ⟨ga, off, none⟩ = some (.int .i64 p) ∧ R.cell? ⟨ga, off + 1, none⟩ = some (.int .i64 q) ∧ R.cell? ⟨ga, off + 2, none⟩ = some (.int .i64 r)) (((try go_split_ands); refine ⟨?_, ?_, ?_⟩ <;> first | assumption | (refine cell_alloc' ?_ _; assumption))) (fail)
    obtain ⟨W5, h5⟩ : ∃ W5, W5 = (w4.alloc (.cells #[.int .i64 r, .int .i64 p, .int .i64 q] 3)).drew := ⟨_, rfl⟩
    rw [← h5]
    have T5 : Tri W5 w4.heap.size r p q := by rw [h5]; exact Box.drew (Box.new _ _ _)
    have c5 : Cur C W5 := by rw [h5]; exact cur_drew (cur_alloc c4 _)
    have s5 : Saves C w4 W5 := by rw [h5]; exact (S44.alloc _).drew
    clear h5
    have ng5 : w4.heap.size ≠ C := by omega
    have hg5 : C < w4.heap.size := by omega
    have hge : w4.heap.size ≤ w4.heap.size := Nat.le_refl _
    go_wp2_with fail
    go_region_with ((first
      | (go_at_call 57
         have tok := hn2
         refine (below_at (w0 := w4) 3 (by omega) (by omega) c7 s7).mono ?_
         rintro e w8 ⟨n3, rfl, hn3, c8, s8, r8⟩
         have T8 : Tri w8 w4.heap.size r p q := Box.saves T7 r8 ng5
         obtain ⟨⟨u1, hu1⟩, hf1⟩ := Tri.int_ T8 hn1
         obtain ⟨⟨u2, hu2⟩, hf2⟩ := Tri.int_ T8 hn2)
      | (go_at_call 57
         have tok := hn1
         refine (below_at (w0 := w4) 3 (by omega) (by omega) c6 s6).mono ?_
         rintro e w7 ⟨n2, rfl, hn2, c7, s7, r7⟩
         have T7 : Tri w7 w4.heap.size r p q := Box.saves T6 r7 ng5
         obtain ⟨⟨v2, hv2⟩, hfv⟩ := Tri.int_ T7 hn2
         have m0 : (0 : Int) ≤ (n2 : Int) := Int.natCast_nonneg _
         have m3 : (n2 : Int) < 3 := by omega)
      | (go_at_call 57
         refine (below_at (w0 := w4) 3 (by omega) (by omega) (cur_drew c5) s5.drew).mono ?_
         rintro e w6 ⟨n1, rfl, hn1, c6, s6, r6⟩
         have T6 : Tri w6 w4.heap.size r p q := Box.saves (Box.drew T5) r6 ng5
         have n0 : (0 : Int) ≤ (n1 : Int) := Int.natCast_nonneg _
         have n3 : (n1 : Int) < 3 := by omega)))
    all_goals
      go_wp2_with fail
      go_ret2
      exact ⟨_, c, [p, q, r], w4.heap.size, rfl, slice_set (slice_saves hS3.out s8 nga) (fun bb o e => by injection e with e; injection e with e1 e2; simp only; omega) _, ox, Tri.setS T8 hn1 or_ op oq (okI_wrap _), (s8.belD B4 hC).setCell (by simp only; omega) _⟩
  · have h3' : ((xs.length : Int) == 3) = false := by simp; omega
    go_wp2_with fail
    go_ret2
    exact ⟨A, c, xs, g, rfl, sx, ox, G.s (by unfold okI; omega) (by unfold okI; omega) (by unfold okI; omega), B4⟩
end Go.Proofs.Yteolobffmldfhaa
