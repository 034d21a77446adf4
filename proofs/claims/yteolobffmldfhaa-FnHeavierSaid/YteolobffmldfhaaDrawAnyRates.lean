/- What the reference's draw of whatever rates answers. No condition. -/
import Derived.Test.YteolobffmldfhaaDrawRates
namespace Go.Proofs.Yteolobffmldfhaa
open Go.RowKit Go.PlainAid
set_option maxRecDepth 100000
set_option linter.unusedVariables false
/-- One number of one rate turned. -/
theorem flat_set {j : Nat} {v : Int} (f : RateD → RateD) (hf : ∀ y, (f y).vals = y.vals.set j (.int .i64 v)) (hj : j < 4) : ∀ (ys : List RateD) (k : Nat), (ys.flatMap RateD.vals).set (k * 4 + j) (.int .i64 v) = (ys.modify k f).flatMap RateD.vals
  | [], k => by simp
  | y :: r, 0 => by
    rw [List.flatMap_cons, Nat.zero_mul, Nat.zero_add, List.set_append_left _ _ (by show j < 4; exact hj), ← hf]
    simp
  | y :: r, k + 1 => by
    rw [List.flatMap_cons, show (k + 1) * 4 + j = 4 + (k * 4 + j) by omega, List.set_append_right _ _ (by show 4 ≤ _; omega), show (4 + (k * 4 + j) - y.vals.length) = k * 4 + j by show 4 + (k * 4 + j) - 4 = _; omega, flat_set f hf hj r k]
    simp
theorem modify_ok {f : RateD → RateD} {ys : List RateD} {k : Nat} (h : ∀ y ∈ ys, y.ok) (hf : ∀ y : RateD, y.ok → (f y).ok) : ∀ y ∈ ys.modify k f, y.ok := by
  intro y hy
  obtain ⟨i, hi, e⟩ := List.getElem_of_mem hy
  rw [List.getElem_modify] at e
  have hi' : i < ys.length := by simpa using hi
  have hm := h _ (List.getElem_mem hi')
  split at e
  · rw [← e]; exact hf _ hm
  · rw [← e]; exact hm
def RatesAny (C : Nat) (w wr : World) (lv : Value) : Prop := ∃ ys : List RateD, Own wr w.heap.size 87 4 RateD.vals lv ys ∧ ys.length ≤ 25 ∧ (∀ y ∈ ys, y.ok) ∧ Cur C wr ∧ Saves C w wr
/-- A store into the row. -/
theorem own_store {w wr : World} {C g n c k j : Nat} {v : Int} {ys : List RateD} (f : RateD → RateD) (hf : ∀ y, (f y).vals = y.vals.set j (.int .i64 v)) (hj : j < 4) (hO : Own wr w.heap.size 87 4 RateD.vals (.slice (some ⟨g, 0, none⟩) n c) ys)
    (hl : ys.length ≤ 25) (hok : ∀ y ∈ ys, y.ok) (hk : ∀ y : RateD, y.ok → (f y).ok) (hC : Cur C wr) (hS : Saves C w wr) (lt : C < w.heap.size) : RatesAny C w (wr.setCell ⟨g, k * 4 + j, none⟩ (.int .i64 v)) (.slice (some ⟨g, 0, none⟩) n c) := by
  have hg : w.heap.size ≤ g := own_block hO
  obtain rfl : n = ys.length := by
    rcases hO.2 with ⟨e, -⟩ | ⟨g', cap, cur, hv, -⟩
    · cases e
    · injection hv
  have hO' : wr.ownsRow w.heap.size 87 4 (.slice (some ⟨g, 0, none⟩) ys.length c) ys.length (ys.flatMap RateD.vals) := hO
  have hst := (World.ownsRow.stored hO' (k * 4 + j) (.int .i64 v)).1
  rw [flat_set f hf hj] at hst
  refine ⟨ys.modify k f, ?_, by simpa using hl, modify_ok hok hk, hC.setB (by simp only; omega) _, hS.setNew (by simp only; omega) _⟩
  unfold Own
  rw [show (ys.modify k f).length = ys.length by simp]
  exact hst
set_option maxHeartbeats 6400000 in
theorem anyRates_any (C zn : Nat) (w : World) (hc : Cur C w) (hzn : zn ≤ 1000) : Calls Try.prog 72 #[.pointer (some ⟨C, 0, none⟩), .int .i64 (zn : Int)] w fun e w' => ∃ v, e = .returned v ∧ RatesAny C w w' v := by
  have lt := hc.lt
  obtain ⟨i0, hi, hz0, hz1, hz2⟩ := info_parts info_Rate3
  go_enter Try.func72, Try.ntmps72
  go_wp2_with fail
  refine (rates_any C zn _ hc hzn).mono ?_
  rintro e w1 ⟨v, rfl, ys, hO, hok, c1, s1⟩
  obtain ⟨A, cp, rfl, hl1, hl2⟩ := hO.form
  unfold maxLen at hl2
  by_cases h0 : 0 < ys.length
  · have h0' : (0 : Int) < (ys.length : Int) := by omega
    obtain ⟨g, rfl⟩ : ∃ g, A = some ⟨g, 0, none⟩ := by
      rcases hO.2 with ⟨e, h⟩ | ⟨g, cap, cur, hv, -⟩
      · omega
      · injection hv with h1; exact ⟨g, h1⟩
    go_wp2_with fail
    refine (once_any C 3 _ c1 (by unfold okI; omega)).mono ?_
    rintro e w2 ⟨u, rfl, c2, s2⟩
    have O2 := hO.savedR lt s2
    have S2 := s1.trans s2
    clear hO c1 s1 s2
    cases u
    · go_wp2_with fail
      go_ret
      exact ⟨_, rfl, ys, O2, by have := hok.1; omega, hok.ok, c2, S2⟩
    go_wp2_with fail
    refine (below_at (w0 := w) ys.length h0 (by have := hok.1; omega) c2 S2).mono ?_
    rintro e w3 ⟨k, rfl, hk, c3, S3, s3⟩
    have O3 := O2.savedR lt s3
    clear O2 S2 c2 s3
    go_wp2_with fail
    refine (below_at (w0 := w) 5 (by omega) (by omega) c3 S3).mono ?_
    rintro e w4 ⟨j, rfl, hj, c4, S4, s4⟩
    have O4 := O3.savedR lt s4
    clear O3 S3 c3 s4
    have k0 : (0 : Int) ≤ (k : Int) := by omega
    have k1 : (k : Int) < (ys.length : Int) := by omega
    rcases (show j = 0 ∨ j = 1 ∨ j = 2 ∨ j = 3 ∨ j = 4 by omega) with rfl | rfl | rfl | rfl | rfl
    · go_wp2_with fail
      have hS := lit_slice (f := Value.int .i64) (vals := vI) (fun _ => rfl) [-1, (zn : Int)] 3 w4 #[.int .i64 (-1), .int .i64 (zn : Int)] rfl (by unfold maxLen; simp)
      have bS : Below w4.heap.size w4 (w4.alloc (.cells #[.int .i64 (-1), .int .i64 (zn : Int)] 3)) := by go_grown
      refine (int_any C [-1, (zn : Int)] _ _ (c4.keep bS) (by intro q hq; simp at hq; unfold okI; omega) (by simp) hS (fun b off n c hv => by have := c4.lt; injection hv with e1 e2 e3; injection e1 with e1; injection e1 with e1 e2; omega)).mono ?_
      rintro e w5 ⟨nn, rfl, hm, c5, s5⟩
      have hnn : okI nn := (show ∀ q ∈ ([-1, (zn : Int)] : List Int), okI q from (by intro q hq; simp at hq; unfold okI; omega)) nn hm
      have O5 := (O4.keep bS (Nat.le_refl _)).savedR lt s5
      have S5 := (S4.trans (Saves.of_below bS)).trans s5
      clear hS bS O4 S4 c4 s5 hm
      obtain ⟨b_, off, y, eA, hb_, hy, hcl⟩ := (O5.slice Rate_len (by omega)).cells (k := k) hk
      injection eA with eA; injection eA with e1 e2; subst e1 e2
      have d0 : w5.cell? ⟨g, k * 4, none⟩ = some (.int .i64 y.zone) := by simpa using hcl 0 _ rfl
      have d1 : w5.cell? ⟨g, k * 4 + 1, none⟩ = some (.int .i64 y.service) := by simpa using hcl 1 _ rfl
      have d2 : w5.cell? ⟨g, k * 4 + 2, none⟩ = some (.int .i64 y.limit) := by simpa using hcl 2 _ rfl
      have d3 : w5.cell? ⟨g, k * 4 + 3, none⟩ = some (.int .i64 y.price) := by simpa using hcl 3 _ rfl
      have df : ∀ i, w5.frozen? ⟨g, i, none⟩ = false := fun i => World.ownsRow.frozenAt (show w5.ownsRow w.heap.size 87 4 (.slice (some ⟨g, 0, none⟩) ys.length cp) ys.length (ys.flatMap RateD.vals) from O5) i
      have hyk : y.ok := hok.ok y (mem_of hy.out)
      clear hcl hy hb_
      go_wp2_with fail
      go_ret
      exact ⟨_, rfl, own_store (j := 0) (fun y => { y with zone := nn }) (fun _ => rfl) (by omega) O5 (by have := hok.1; omega) hok.ok (fun y h => ⟨hnn, h.2.1, h.2.2.1, h.2.2.2⟩) c5 S5 lt⟩
    · go_wp2_with fail
      refine (below_at (w0 := w) 5 (by omega) (by omega) c4 S4).mono ?_
      rintro e w5 ⟨n5, rfl, h5, c5, S5, s5⟩
      obtain ⟨nn, hnn'⟩ : ∃ nn : Int, nn = (n5 : Int) := ⟨_, rfl⟩
      rw [← hnn']
      have hnn : okI nn := by unfold okI; omega
      have O5 := O4.savedR lt s5
      clear O4 S4 c4 s5 hnn'
      obtain ⟨b_, off, y, eA, hb_, hy, hcl⟩ := (O5.slice Rate_len (by omega)).cells (k := k) hk
      injection eA with eA; injection eA with e1 e2; subst e1 e2
      have d0 : w5.cell? ⟨g, k * 4, none⟩ = some (.int .i64 y.zone) := by simpa using hcl 0 _ rfl
      have d1 : w5.cell? ⟨g, k * 4 + 1, none⟩ = some (.int .i64 y.service) := by simpa using hcl 1 _ rfl
      have d2 : w5.cell? ⟨g, k * 4 + 2, none⟩ = some (.int .i64 y.limit) := by simpa using hcl 2 _ rfl
      have d3 : w5.cell? ⟨g, k * 4 + 3, none⟩ = some (.int .i64 y.price) := by simpa using hcl 3 _ rfl
      have df : ∀ i, w5.frozen? ⟨g, i, none⟩ = false := fun i => World.ownsRow.frozenAt (show w5.ownsRow w.heap.size 87 4 (.slice (some ⟨g, 0, none⟩) ys.length cp) ys.length (ys.flatMap RateD.vals) from O5) i
      have hyk : y.ok := hok.ok y (mem_of hy.out)
      clear hcl hy hb_
      go_wp2_with fail
      go_ret
      exact ⟨_, rfl, own_store (j := 1) (fun y => { y with service := nn }) (fun _ => rfl) (by omega) O5 (by have := hok.1; omega) hok.ok (fun y h => ⟨h.1, hnn, h.2.2.1, h.2.2.2⟩) c5 S5 lt⟩
    · go_wp2_with fail
      refine (odd_any C _ c4).mono ?_
      rintro e w5 ⟨nn, rfl, hnn, c5, s5⟩
      have O5 := O4.savedR lt s5
      have S5 := S4.trans s5
      clear O4 S4 c4 s5
      obtain ⟨b_, off, y, eA, hb_, hy, hcl⟩ := (O5.slice Rate_len (by omega)).cells (k := k) hk
      injection eA with eA; injection eA with e1 e2; subst e1 e2
      have d0 : w5.cell? ⟨g, k * 4, none⟩ = some (.int .i64 y.zone) := by simpa using hcl 0 _ rfl
      have d1 : w5.cell? ⟨g, k * 4 + 1, none⟩ = some (.int .i64 y.service) := by simpa using hcl 1 _ rfl
      have d2 : w5.cell? ⟨g, k * 4 + 2, none⟩ = some (.int .i64 y.limit) := by simpa using hcl 2 _ rfl
      have d3 : w5.cell? ⟨g, k * 4 + 3, none⟩ = some (.int .i64 y.price) := by simpa using hcl 3 _ rfl
      have df : ∀ i, w5.frozen? ⟨g, i, none⟩ = false := fun i => World.ownsRow.frozenAt (show w5.ownsRow w.heap.size 87 4 (.slice (some ⟨g, 0, none⟩) ys.length cp) ys.length (ys.flatMap RateD.vals) from O5) i
      have hyk : y.ok := hok.ok y (mem_of hy.out)
      clear hcl hy hb_
      go_wp2_with fail
      go_ret
      exact ⟨_, rfl, own_store (j := 2) (fun y => { y with limit := nn }) (fun _ => rfl) (by omega) O5 (by have := hok.1; omega) hok.ok (fun y h => ⟨h.1, h.2.1, hnn, h.2.2.2⟩) c5 S5 lt⟩
    · go_wp2_with fail
      have hS := lit_slice (f := Value.int .i64) (vals := vI) (fun _ => rfl) [-1, 0, 100000, 100001] 3 w4 #[.int .i64 (-1), .int .i64 0, .int .i64 100000, .int .i64 100001] rfl (by unfold maxLen; simp)
      have bS : Below w4.heap.size w4 (w4.alloc (.cells #[.int .i64 (-1), .int .i64 0, .int .i64 100000, .int .i64 100001] 3)) := by go_grown
      refine (int_any C [-1, 0, 100000, 100001] _ _ (c4.keep bS) (by intro q hq; simp at hq; unfold okI; omega) (by simp) hS (fun b off n c hv => by have := c4.lt; injection hv with e1 e2 e3; injection e1 with e1; injection e1 with e1 e2; omega)).mono ?_
      rintro e w5 ⟨nn, rfl, hm, c5, s5⟩
      have hnn : okI nn := (show ∀ q ∈ ([-1, 0, 100000, 100001] : List Int), okI q from (by intro q hq; simp at hq; unfold okI; omega)) nn hm
      have O5 := (O4.keep bS (Nat.le_refl _)).savedR lt s5
      have S5 := (S4.trans (Saves.of_below bS)).trans s5
      clear hS bS O4 S4 c4 s5 hm
      obtain ⟨b_, off, y, eA, hb_, hy, hcl⟩ := (O5.slice Rate_len (by omega)).cells (k := k) hk
      injection eA with eA; injection eA with e1 e2; subst e1 e2
      have d0 : w5.cell? ⟨g, k * 4, none⟩ = some (.int .i64 y.zone) := by simpa using hcl 0 _ rfl
      have d1 : w5.cell? ⟨g, k * 4 + 1, none⟩ = some (.int .i64 y.service) := by simpa using hcl 1 _ rfl
      have d2 : w5.cell? ⟨g, k * 4 + 2, none⟩ = some (.int .i64 y.limit) := by simpa using hcl 2 _ rfl
      have d3 : w5.cell? ⟨g, k * 4 + 3, none⟩ = some (.int .i64 y.price) := by simpa using hcl 3 _ rfl
      have df : ∀ i, w5.frozen? ⟨g, i, none⟩ = false := fun i => World.ownsRow.frozenAt (show w5.ownsRow w.heap.size 87 4 (.slice (some ⟨g, 0, none⟩) ys.length cp) ys.length (ys.flatMap RateD.vals) from O5) i
      have hyk : y.ok := hok.ok y (mem_of hy.out)
      clear hcl hy hb_
      go_wp2_with fail
      go_ret
      exact ⟨_, rfl, own_store (j := 3) (fun y => { y with price := nn }) (fun _ => rfl) (by omega) O5 (by have := hok.1; omega) hok.ok (fun y h => ⟨h.1, h.2.1, h.2.2.1, hnn⟩) c5 S5 lt⟩
    · obtain ⟨b_, off, y, eA, hb_, hy, hcl⟩ := (O4.slice Rate_len (by omega)).cells (k := k) hk
      injection eA with eA; injection eA with e1 e2; subst e1 e2
      have d0 : w4.cell? ⟨g, k * 4, none⟩ = some (.int .i64 y.zone) := by simpa using hcl 0 _ rfl
      have d1 : w4.cell? ⟨g, k * 4 + 1, none⟩ = some (.int .i64 y.service) := by simpa using hcl 1 _ rfl
      have d2 : w4.cell? ⟨g, k * 4 + 2, none⟩ = some (.int .i64 y.limit) := by simpa using hcl 2 _ rfl
      have d3 : w4.cell? ⟨g, k * 4 + 3, none⟩ = some (.int .i64 y.price) := by simpa using hcl 3 _ rfl
      have df : ∀ i, w4.frozen? ⟨g, i, none⟩ = false := fun i => World.ownsRow.frozenAt (show w4.ownsRow w.heap.size 87 4 (.slice (some ⟨g, 0, none⟩) ys.length cp) ys.length (ys.flatMap RateD.vals) from O4) i
      have hyk : y.ok := hok.ok y (mem_of hy.out)
      clear hcl hy hb_
      have hgw : w.heap.size ≤ g := own_block O4
      go_wp2_with (at_builtin; refine wpList_append_own _ rfl (.tmp 23) (.tmp 28) 48 rfl w.heap.size 87 i0 (.agg #[.int .i64 0, .int .i64 0, .int .i64 0, .int .i64 0]) 4 32 Try.underlying48 hi hz0 hz1 hz2 rfl (by decide) _ _ _ rfl (World.ownsRow.alloc O4 _) _ 1 1 [.int .i64 y.zone, .int .i64 y.service, .int .i64 y.limit, .int .i64 y.price] rfl rfl ?c1 ?c2 ?c3 ?c4 ?c5 ?_)
      try (case c1 =>
        intro j u hj
        match j, hj with
        | 0, hj => simp at hj; subst hj; simp [go_sem, Addr.add]
        | 1, hj => simp at hj; subst hj; simp [go_sem, Addr.add]
        | 2, hj => simp at hj; subst hj; simp [go_sem, Addr.add]
        | 3, hj => simp at hj; subst hj; simp [go_sem, Addr.add])
      case c2 => first | (intro u hu; simp at hu; rcases hu with rfl | rfl | rfl | rfl <;> rfl) | exact ⟨rfl, rfl, rfl, rfl⟩
      case c3 => have := hok.1; unfold maxLen; omega
      case c4 => have := hok.1; omega
      case c5 => have := S4.size; simp; omega
      intro v' w7 hown' hgrow _
      have zz := S4.size
      have B7 : Below w.heap.size w4 w7 := ((Below.refl w.heap.size w4).alloc zz _).grown hgrow (by simp; omega) (fun g q => (World.ownsRow.lt O4 g q).1)
      have o7 : Own w7 w.heap.size 87 4 RateD.vals v' (ys ++ [y]) := own_rate hown'
      have c7 := c4.keepB B7 lt
      have S7 := S4.belowR B7 (Nat.le_refl _)
      clear hown' hgrow B7
      go_wp2_with fail
      go_ret
      exact ⟨_, rfl, ys ++ [y], o7, by rw [List.length_append]; show _ + 1 ≤ 25; have := hok.1; omega, fun q hq => by
        rcases List.mem_append.1 hq with h | h
        · exact hok.ok q h
        · rw [List.mem_singleton.1 h]; exact hyk, c7, S7⟩
  · have h0' : ¬ (0 : Int) < (ys.length : Int) := by omega
    go_wp2_with fail
    go_ret
    exact ⟨_, rfl, ys, hO, by have := hok.1; omega, hok.ok, c1, s1⟩
end Go.Proofs.Yteolobffmldfhaa
