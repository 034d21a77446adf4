/- A row of trips that a call made itself: exchanging two of them. No condition. -/
import Derived.Test.YtdmeinfdldiegaaTripsLaw
import Derived.Test.YtdmeinfdldiegaaStable
import Derived.Test.YtdmeinfdldiegaaOwn
import Derived.Test.YtdmeinfdldiegaaShelf
import Derived.Laws.OwnMore
import Derived.Lib.ReflectliteSwap
namespace Go.Proofs.Ytdmeinfdldiegaa
open Go.RowKit Go.PlainAid Go.Shelf
set_option maxRecDepth 100000
set_option linter.unusedVariables false
theorem Trip_len : ∀ x : TripD, x.vals.length = 2 := fun _ => rfl
theorem Trip_one : ∀ x : TripD, ∀ u ∈ x.vals, u.oneCell' = true := fun x u hu => by
  simp only [TripD.vals, List.mem_cons, List.not_mem_nil, or_false] at hu
  rcases hu with rfl | rfl <;> rfl
/-- The cells of one element set. -/
theorem flat_set (t : TripD) : ∀ (L : List TripD) (i : Nat), ((L.flatMap TripD.vals).set (i * 2) (.int .i64 t.leg)).set (i * 2 + 1) (.int .i64 t.day) = (L.set i t).flatMap TripD.vals
  | [], i => by simp
  | x :: xs, 0 => by simp [TripD.vals]
  | x :: xs, i + 1 => by
    have ih := flat_set t xs i
    have e1 : (i + 1) * 2 = i * 2 + 1 + 1 := by omega
    rw [e1, List.flatMap_cons, List.set_cons_succ, List.flatMap_cons, ← ih]
    simp [TripD.vals]
theorem rowL_swap {n i j : Nat} (d : Nat → TripD) (hi : i < n) (hj : j < n) : ((rowL n d).set i (d j)).set j (d i) = rowL n (SB.swp d i j) := by
  apply List.ext_getElem
  · simp [rowL]
  · intro k h1 h2
    rw [rowL_get, List.getElem_set, List.getElem_set, rowL_get]
    unfold SB.swp
    by_cases e1 : j = k
    · subst e1
      by_cases e2 : j = i
      · subst e2; simp
      · simp [e2]
    · by_cases e2 : i = k
      · subst e2; simp [e1]
      · simp [e1, e2, Ne.symm e1, Ne.symm e2]
/-- A trip of a leg of the network, on a day of the plan. -/
def InBox (legs : List LegD) (t : TripD) : Prop := (0 ≤ t.leg ∧ t.leg < legs.length) ∧ 0 ≤ t.day ∧ t.day ≤ 60
/-- What stays as it is while the row is sorted. -/
structure TFix (w0 : World) (legs : List LegD) (off : List Int) (ch : Int) (l o : Value) (nb ob g : Nat) : Prop where
  c0 : w0.cell? ⟨nb, 0, none⟩ = some l
  c1 : w0.cell? ⟨nb, 1, none⟩ = some o
  c2 : w0.cell? ⟨nb, 2, none⟩ = some (.int .i64 ch)
  sl : SliceOf w0 6 LegD.vals l legs
  so : SliceOf w0 1 vI o off
  net : netB legs off ch = true
  ne : ob ≠ g
/-- The row as it stands in a world. -/
structure TSt (w0 : World) (legs : List LegD) (ob g c n : Nat) (w : World) (d : Nat → TripD) : Prop where
  below : Below w0.heap.size w0 w
  obc : w.cell? ⟨ob, 0, none⟩ = some (.slice (some ⟨g, 0, none⟩) n c)
  own : Own w w0.heap.size 45 2 TripD.vals (.slice (some ⟨g, 0, none⟩) n c) (rowL n d)
  box : ∀ k, k < n → InBox legs (d k)
theorem TSt.row {w0 w : World} {legs : List LegD} {ob g c n : Nat} {d : Nat → TripD} (h : TSt w0 legs ob g c n w d) : w0.heap.size ≤ g ∧ g < w.heap.size := World.ownsRow.lt h.own g rfl
theorem TSt.keep {w0 w w' : World} {legs : List LegD} {ob g c n : Nat} {d : Nat → TripD} (h : TSt w0 legs ob g c n w d) (hb : Below w.heap.size w w') : TSt w0 legs ob g c n w' d :=
  ⟨chain h.below hb, cell_keep hb h.obc, h.own.keep hb (Nat.le_refl _), h.box⟩
/-- A trip's two cells. -/
theorem TSt.cells {w0 w : World} {legs : List LegD} {ob g c n : Nat} {d : Nat → TripD} (h : TSt w0 legs ob g c n w d) {k : Nat} (hk : k < n) : w.cell? ⟨g, k * 2, none⟩ = some (.int .i64 (d k).leg) ∧ w.cell? ⟨g, k * 2 + 1, none⟩ = some (.int .i64 (d k).day) := by
  have ho := h.own
  unfold Own at ho
  rw [rowL_len] at ho
  constructor
  · rw [World.ownsRow.cellAt ho (k * 2) (by omega)]
    exact flatMap_at Trip_len (rowL n d) k (d k) 0 _ (rowL_at d hk) rfl
  · rw [World.ownsRow.cellAt ho (k * 2 + 1) (by omega)]
    exact flatMap_at Trip_len (rowL n d) k (d k) 1 _ (rowL_at d hk) rfl
theorem TSt.frozen {w0 w : World} {legs : List LegD} {ob g c n : Nat} {d : Nat → TripD} (h : TSt w0 legs ob g c n w d) (j : Nat) : w.frozen? ⟨g, j, none⟩ = false := by
  have ho := h.own
  unfold Own at ho
  rw [rowL_len] at ho
  exact World.ownsRow.frozenAt ho j
theorem trip_info : (Try.prog.info? 45).map (fun i => (i.size, i.bytes, i.hasPointers)) = some (2, 16, false) := by kernel_rfl
theorem trip_agg : ∀ w, (isAgg 45).run Try.prog w = .ok true w := Try.isAgg45
theorem swapT_lit : ∀ (args : Array Value) (W : World), (callFunc 73 args).run Try.prog W = ((Extern.ReflectliteSwapper.swap false args).run Try.prog W).andThen fun v w' => .ok (.value v) w' := fun args W =>
  run_callFunc_extern Try.func73 (by kernel_rfl) (by kernel_rfl) (by kernel_rfl) (e := Extern.ReflectliteSwapper.swap false) (by kernel_rfl) args W
theorem TSt.swap {w0 w : World} {legs : List LegD} {ob g c n : Nat} {d : Nat → TripD} (hne : ob ≠ g) (h : TSt w0 legs ob g c n w d) (i j : Nat) (hi : i < n) (hj : j < n) :
    ∃ w', (callFunc 73 (#[.int .i64 (i : Int), .int .i64 (j : Int)] ++ #[.slice (some ⟨g, 0, none⟩) n c, typeHandle Try.prog 45])).run Try.prog w = .ok (.value (.tuple #[])) w' ∧ TSt w0 legs ob g c n w' (SB.swp d i j) ∧ w.grownBy w' (some g) := by
  obtain ⟨ie, hie, hie2⟩ := Option.map_eq_some_iff.1 trip_info
  have hs : ie.size = 2 := by injection hie2
  have cX := h.cells hi
  have cY := h.cells hj
  have hrun := Lib.run_swap_cells (P := Try.prog) false 45 ie hie trip_agg g 0 n c i j hi hj (d i).vals (d j).vals (by rw [hs]; rfl) (by rw [hs]; rfl) (Trip_one _) (Trip_one _) w
    (fun k v hk => by
      rw [hs, Nat.zero_add]
      match k, hk with
      | 0, hk => simp [TripD.vals] at hk; subst hk; exact cX.1
      | 1, hk => simp [TripD.vals] at hk; subst hk; exact cX.2)
    (fun k v hk => by
      rw [hs, Nat.zero_add]
      match k, hk with
      | 0, hk => simp [TripD.vals] at hk; subst hk; exact cY.1
      | 1, hk => simp [TripD.vals] at hk; subst hk; exact cY.2)
    (fun k _ => h.frozen _) (fun k _ => h.frozen _)
  rw [hs, Nat.zero_add, Nat.zero_add] at hrun
  have ho := h.own
  unfold Own at ho
  rw [rowL_len] at ho
  have s1 := World.ownsRow.stored ho (i * 2) (.int .i64 (d j).leg)
  have s2 := World.ownsRow.stored s1.1 (i * 2 + 1) (.int .i64 (d j).day)
  have s3 := World.ownsRow.stored s2.1 (j * 2) (.int .i64 (d i).leg)
  have s4 := World.ownsRow.stored s3.1 (j * 2 + 1) (.int .i64 (d i).day)
  have hG := gr_trans (gr_trans (gr_trans s1.2 s2.2) s3.2) s4.2
  have ho4 := s4.1
  rw [flat_set, flat_set, rowL_swap d hi hj] at ho4
  have hrow := h.row
  refine ⟨_, ?_, ⟨?_, ?_, ?_, ?_⟩, hG⟩
  · rw [swapT_lit]
    show ((Extern.ReflectliteSwapper.swap false #[.int .i64 (i : Int), .int .i64 (j : Int), .slice (some ⟨g, 0, none⟩) n c, typeHandle Try.prog 45]).run Try.prog w).andThen _ = _
    rw [hrun]; rfl
  · exact h.below.grown hG h.below.size (fun k hk => by injection hk with e; rw [← e]; exact hrow.1)
  · exact gr_cell hG h.obc hne
  · unfold Own; rw [rowL_len]; exact ho4
  · intro k hk
    unfold SB.swp
    split
    · exact h.box j hj
    · split
      · exact h.box i hi
      · exact h.box k hk
end Go.Proofs.Ytdmeinfdldiegaa
