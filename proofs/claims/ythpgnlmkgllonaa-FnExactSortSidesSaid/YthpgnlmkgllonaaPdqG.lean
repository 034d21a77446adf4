/- The library's sort of numbers turned round by sort.Reverse, at every length. No condition. -/
import Derived.Test.YthpgnlmkgllonaaPdqF
import Derived.Test.YthpgnlmkgllonaaSortI
import Derived.Sort.WalkA14
import Derived.Laws.OwnMore
namespace Go.Proofs.Ythpgnlmkgllonaa
open Go.RowKit Go.PlainAid
set_option maxRecDepth 100000
set_option linter.unusedVariables false
def rowI (n : Nat) (d : Nat → Int) : List Int := (List.range n).map d
theorem rowI_len (n : Nat) (d : Nat → Int) : (rowI n d).length = n := by simp [rowI]
theorem rowI_at {n : Nat} (d : Nat → Int) {k : Nat} (h : k < n) : (rowI n d)[k]? = some (d k) := by simp [rowI, h]
theorem rowI_get {n : Nat} (d : Nat → Int) {k : Nat} (h : k < (rowI n d).length) : (rowI n d)[k] = d k := by simp [rowI]
theorem rowI_of (L : List Int) : rowI L.length (fun k => (L[k]?).getD 0) = L := by
  apply List.ext_getElem
  · simp [rowI]
  · intro k h1 h2; rw [rowI_get]; simp [h2]
theorem rowI_swap {n i j : Nat} (d : Nat → Int) (hi : i < n) (hj : j < n) : (((rowI n d).flatMap vI).set i (.int .i64 (d j))).set j (.int .i64 (d i)) = (rowI n (SB.swp d i j)).flatMap vI := by
  rw [flatMap_vI, flatMap_vI]
  apply List.ext_getElem
  · simp [rowI]
  · intro k h1 h2
    rw [List.getElem_map, rowI_get, List.getElem_set, List.getElem_set, List.getElem_map, rowI_get]
    unfold SB.swp
    by_cases e1 : j = k
    · subst e1
      by_cases e2 : j = i
      · subst e2; simp
      · simp [e2]
    · by_cases e2 : i = k
      · subst e2; simp [e1]
      · simp [e1, e2, Ne.symm e1, Ne.symm e2]
/-- The row and the value that names it. -/
structure ISt (ob bs B g c n : Nat) (w : World) (d : Nat → Int) : Prop where
  size : bs ≤ w.heap.size
  blt : B < bs
  glt : g < bs
  ne : B ≠ g
  box : w.cell? ⟨B, 0, none⟩ = some (.iface 31 (.slice (some ⟨g, 0, none⟩) n c))
  own : Own w ob 3 1 vI (.slice (some ⟨g, 0, none⟩) n c) (rowI n d)
theorem ISt.keep {ob bs B g c n : Nat} {w w' : World} {d : Nat → Int} (h : ISt ob bs B g c n w d) (hb : Below w.heap.size w w') : ISt ob bs B g c n w' d :=
  ⟨Nat.le_trans h.size hb.size, h.blt, h.glt, h.ne, cell_keep hb h.box, h.own.keep hb (Nat.le_refl _)⟩
theorem ISt.far {ob bs B g c n b : Nat} {w w' : World} {d : Nat → Int} (h : ISt ob bs B g c n w d) (hb : bs ≤ b) (hg : w.grownBy w' (some b)) : ISt ob bs B g c n w' d := by
  have h1 := h.blt; have h2 := h.glt
  exact ⟨Nat.le_trans h.size hg.size, h.blt, h.glt, h.ne, gr_cell hg h.box (by simp only; omega), World.ownsRow.kept h.own hg (.inr (by show some g ≠ some b; intro e; injection e with e; omega))⟩
theorem ISt.cell {ob bs B g c n : Nat} {w : World} {d : Nat → Int} (h : ISt ob bs B g c n w d) {k : Nat} (hk : k < n) : w.cell? ⟨g, k, none⟩ = some (.int .i64 (d k)) := by
  have ho := h.own
  unfold Own at ho
  rw [rowI_len] at ho
  rw [World.ownsRow.cellAt ho k (by omega), flatMap_vI, List.getElem?_map, rowI_at d hk]; rfl
theorem ISt.fz {ob bs B g c n : Nat} {w : World} {d : Nat → Int} (h : ISt ob bs B g c n w d) (k : Nat) : w.frozen? ⟨g, k, none⟩ = false := by
  have ho := h.own
  unfold Own at ho
  rw [rowI_len] at ho
  exact World.ownsRow.frozenAt ho k
set_option maxHeartbeats 1600000 in
theorem intLessG {ob bs B g c n : Nat} {w : World} {d : Nat → Int} (h : ISt ob bs B g c n w d) (hn : n ≤ 1048576) (i j : Nat) (hi : i < n) (hj : j < n) :
    Calls Try.prog 48 #[.slice (some ⟨g, 0, none⟩) n c, .int .i64 (i : Int), .int .i64 (j : Int)] w fun e w' => e = .returned (.bool (decide (d i < d j))) ∧ Below w.heap.size w w' := by
  have ci := h.cell hi
  have cj := h.cell hj
  obtain ⟨x, hx⟩ : ∃ x, x = d i := ⟨_, rfl⟩
  obtain ⟨y, hy⟩ : ∃ y, y = d j := ⟨_, rfl⟩
  rw [← hx] at ci ⊢
  rw [← hy] at cj ⊢
  clear hx hy h
  go_enter Try.func48, Try.ntmps48
  go_wp2
  go_quiet (fail)
  go_wp2
  go_ret
  exact ⟨rfl, below_drewN (Below.refl _ _) _⟩
set_option maxHeartbeats 1600000 in
theorem revLessG {ob bs B g c n : Nat} {w : World} {d : Nat → Int} (h : ISt ob bs B g c n w d) (hn : n ≤ 1048576) (i j : Nat) (hi : i < n) (hj : j < n) :
    Calls Try.prog 51 #[.agg #[.iface 31 (.slice (some ⟨g, 0, none⟩) n c)], .int .i64 (i : Int), .int .i64 (j : Int)] w fun e w' => e = .returned (.bool (gtI (d i) (d j))) ∧ Below w.heap.size w w' := by
  have ms := fun W => slice_less (.slice (some ⟨g, 0, none⟩) n c) W
  have B0 : Below w.heap.size w (w.alloc (.cells #[.iface 31 (.slice (some ⟨g, 0, none⟩) n c)] 38)) := by go_grown
  have C := intLessG (h.keep B0) hn j i hj hi
  clear h
  go_enter Try.func51, Try.ntmps51
  go_wp2_with fail
  refine C.mono ?_
  rintro e w1 ⟨rfl, b1⟩
  go_wp2_with fail
  go_ret
  exact ⟨rfl, chain B0 b1⟩
set_option maxHeartbeats 1600000 in
theorem intSwapG {ob bs B g c n : Nat} {w : World} {d : Nat → Int} (h : ISt ob bs B g c n w d) (hn : n ≤ 1048576) (i j : Nat) (hi : i < n) (hj : j < n) :
    Calls Try.prog 50 #[.slice (some ⟨g, 0, none⟩) n c, .int .i64 (i : Int), .int .i64 (j : Int)] w fun e w' => e = .returned (.tuple #[]) ∧ ISt ob bs B g c n w' (SB.swp d i j) ∧ w.grownBy w' (some g) := by
  have ci := h.cell hi
  have cj := h.cell hj
  have fi := h.fz i
  have fj := h.fz j
  have ho := h.own
  unfold Own at ho
  rw [rowI_len] at ho
  have s1 := World.ownsRow.stored ho i (.int .i64 (d j))
  have s2 := World.ownsRow.stored s1.1 j (.int .i64 (d i))
  have hG := gr_trans s1.2 s2.2
  have ho2 := s2.1
  rw [rowI_swap d hi hj] at ho2
  have key : ISt ob bs B g c n ((w.setCell ⟨g, i, none⟩ (.int .i64 (d j))).setCell ⟨g, j, none⟩ (.int .i64 (d i))).drew (SB.swp d i j) ∧ w.grownBy ((w.setCell ⟨g, i, none⟩ (.int .i64 (d j))).setCell ⟨g, j, none⟩ (.int .i64 (d i))).drew (some g) :=
    ⟨⟨Nat.le_trans h.size hG.size, h.blt, h.glt, h.ne, gr_cell hG h.box h.ne, by unfold Own; rw [rowI_len]; exact ho2⟩, ⟨hG.os, hG.tape, hG.output, hG.size, hG.block⟩⟩
  obtain ⟨x, hx⟩ : ∃ x, x = d i := ⟨_, rfl⟩
  obtain ⟨y, hy⟩ : ∃ y, y = d j := ⟨_, rfl⟩
  rw [← hx] at ci
  rw [← hy] at cj
  rw [← hx, ← hy] at key
  obtain ⟨v', hy'⟩ := cell?_setCell_some (w := w) (p := ⟨g, i, none⟩) (x := .int .i64 y) (q := ⟨g, j, none⟩) cj
  have KEY := Lib.hid key
  clear key hG ho ho2 s1 s2 h hx hy
  go_enter Try.func50, Try.ntmps50
  go_wp2
  go_region
  all_goals (try go_wp2)
  all_goals go_end0
  all_goals exact ⟨rfl, KEY.out⟩
theorem ordG : SB.Ord gtI where
  asym x y h := by simp only [gtI, decide_eq_true_eq, decide_eq_false_iff_not] at *; omega
  trans x y z h g := by simp only [gtI, decide_eq_false_iff_not] at *; omega
theorem envG (ob bs B g c n : Nat) (hr : g < bs) (hn : n ≤ 1048576) : REnv bs B (.agg #[.iface 31 (.slice (some ⟨g, 0, none⟩) n c)]) (.slice (some ⟨g, 0, none⟩) n c) gtI n g (ISt ob bs B g c n) where
  base h := ⟨h.size, h.glt⟩
  far h hb hg := h.far hb hg
  keep h hb := h.keep hb
  lt_ h := Nat.lt_of_lt_of_le h.glt h.size
  mless h := meth_less B _ _ h.box
  mswap h := meth_swap B _ _ h.box
  less i j x y hx hy h hi hj := by subst hx hy; exact revLessG h hn i j hi hj
  swap i j x y hx hy h hi hj := by subst hx hy; exact intSwapG h hn i j hi hj
set_option maxHeartbeats 1600000 in
theorem sortAny {ob bs B g c n : Nat} {w : World} {d : Nat → Int} (h : ISt ob bs B g c n w d) (hn : n ≤ 1048576) :
    Calls Try.prog 11 #[.iface 36 (.pointer (some ⟨B, 0, none⟩))] w fun e w' => ∃ d', e = .returned (.tuple #[]) ∧ ISt ob bs B g c n w' d' ∧ Hid (SB.Srt gtI d' 0 n ∧ SB.Mv 0 n d d') ∧ w.grownBy w' (some g) := by
  have ml : Sem.run Try.prog (method 177 36 (.pointer (some ⟨B, 0, none⟩)) "Len") w = .ok (47, .slice (some ⟨g, 0, none⟩) n c) w := meth_len B _ w h.box
  have cl : Calls Try.prog 47 #[.slice (some ⟨g, 0, none⟩) n c] w fun e w' => e = .returned (.int .i64 n) ∧ w = w' := by
    clear h ml
    go_enter Try.func47, Try.ntmps47
    go_wp2
    go_ret
    exact ⟨rfl, rfl⟩
  have hE := envG ob bs B g c n h.glt hn
  have C := fun (z : Int) (z0 : 0 ≤ z) (z1 : z ≤ 64) => pdq_any hE ordG (fun x => by simp [gtI]) (by omega) 0 (n : Int) z rfl rfl z0 z1 w d h
  have H := Lib.hid h
  by_cases h1 : n ≤ 1
  · have h1' : (n : Int) ≤ 1 := by omega
    clear h C
    go_enter Try.func11, Try.ntmps11
    go_wp2_with fail
    refine cl.mono ?_
    rintro e w1 ⟨rfl, rfl⟩
    go_wp2_with fail
    (try simp only [Exit.inBlock, Exit.then])
    refine bodyPost_ret (results_none rfl _ _ _) rfl ?_
    exact ⟨d, rfl, H.out, Lib.hid ⟨SB.Srt.one _ _ (by omega), SB.Mv.refl _ _ _⟩, gr_refl _ _⟩
  · have h1' : ¬ (n : Int) ≤ 1 := by omega
    have hu : IntKind.u64.wrap (n : Int) = (n : Int) := by simp [IntKind.wrap, IntKind.bits, IntKind.signed]; omega
    have bl := Try.bits_Len (n : Int) w (by omega) (by omega)
    obtain ⟨z, hz⟩ : ∃ z : Nat, z = Lib.bitLen (n : Int).toNat := ⟨_, rfl⟩
    have hz1 : z ≤ 64 := by
      rw [hz, Int.toNat_natCast, bitLen_eq _ (by omega)]
      exact (Go.Sort.bitsLen_le_iff n 64).2 (by omega)
    rw [← hz] at bl
    have C2 := C (z : Int) (by omega) (by omega)
    clear h C hz
    go_enter Try.func11, Try.ntmps11
    go_wp2_with fail
    refine cl.mono ?_
    rintro e w1 ⟨rfl, rfl⟩
    go_wp2_with fail
    refine bl.mono ?_
    rintro e w1 ⟨rfl, rfl⟩
    go_wp2_with fail
    refine C2.mono ?_
    rintro e w1 ⟨d', rfl, h3, h4, h5⟩
    go_wp2_with fail
    go_end0
    exact ⟨d', rfl, h3, h4, h5⟩
/-- What a sort answers, as a list. -/
theorem mv_perm {n : Nat} {d e : Nat → Int} (h : SB.Mv 0 n d e) : (rowI n e).Perm (rowI n d) := by
  obtain ⟨s, t, h1, h2, h3, h4, h5⟩ := h
  have e1 : rowI n e = ((List.range n).map s).map d := by
    unfold rowI; rw [List.map_map]; apply List.map_congr_left; intro k _; exact h5 k
  rw [e1]
  unfold rowI
  refine List.Perm.map d ?_
  refine (List.perm_ext_iff_of_nodup ?_ List.nodup_range).2 fun k => ?_
  · unfold List.Nodup
    rw [List.pairwise_map]
    exact List.nodup_range.imp fun {a b} hab he => hab (by have := congrArg t he; rwa [h2, h2] at this)
  · rw [List.mem_map, List.mem_range]
    constructor
    · rintro ⟨j, hj, rfl⟩
      rw [List.mem_range] at hj
      exact (h3 j (Nat.zero_le _) hj).2
    · intro hk
      refine ⟨t k, ?_, h1 k⟩
      rw [List.mem_range]
      by_cases q : t k < n
      · exact q
      · have := h4 (t k) (by omega)
        rw [h1] at this; omega
theorem sorted_list {n : Nat} {d e : Nat → Int} (hs : SB.Srt gtI e 0 n) (hm : SB.Mv 0 n d e) : rowI n e = sortD (rowI n d) := by
  refine sortD_unique (mv_perm hm) fun i j hij hj => ?_
  rw [rowI_len] at hj
  have := hs i j (Nat.zero_le _) hij hj
  simp only [gtI, decide_eq_false_iff_not] at this
  simp only [List.getD_eq_getElem?_getD, rowI_at e hj, rowI_at e (show i < n by omega), Option.getD_some]
  omega
end Go.Proofs.Ythpgnlmkgllonaa
