/- How the laws mark and read back rows of the call's own: texts, numbers, trips, legs, a network. No condition. -/
import Derived.Test.YtdmeinfdldiegaaNums
import Derived.Test.YtdmeinfdldiegaaDraws
import Derived.Test.YtdmeinfdldiegaaOwn
import Derived.Test.YtdmeinfdldiegaaRecs
import Derived.Deep.RegionHeld3
import Derived.Laws.IdiomStrings
namespace Go.Proofs.Ytdmeinfdldiegaa
open Go.RowKit Go.PlainAid
open Go.Lib (itoa decDigits decDigits_two)
set_option maxRecDepth 100000
set_option linter.unusedVariables false
theorem Own.grownM {α : Type} {w w' : World} {B size : Nat} {e : TypeId} {vals : α → List Value} {v : Value} {xs : List α} (h : Own w B e size vals v xs) (hg : w.grownBy w' v.ownBlock) (hB : B ≤ w.heap.size) : Below B w w' :=
  ⟨hg.os, hg.tape, hg.output, hg.size, fun k hk => hg.block k (by omega) (by intro q; have := (World.ownsRow.lt h k q.symm).1; omega)⟩
theorem row_grown {w w' : World} {B size n : Nat} {e : TypeId} {v : Value} {xs : List Value} (h : w.ownsRow B e size v n xs) (hg : w.grownBy w' v.ownBlock) (hB : B ≤ w.heap.size) : Below B w w' :=
  ⟨hg.os, hg.tape, hg.output, hg.size, fun k hk => hg.block k (by omega) (by intro q; have := (World.ownsRow.lt h k q.symm).1; omega)⟩
theorem grown_trans {w a b : World} {row : Option Nat} (h : w.grownBy a row) (g : a.grownBy b row) : w.grownBy b row := ⟨g.os.trans h.os, g.tape.trans h.tape, g.output.trans h.output, Nat.le_trans h.size g.size, fun i hi hne => (g.block i (Nat.lt_of_lt_of_le hi h.size) hne).trans (h.block i hi hne)⟩
theorem grown_below {w a b : World} {row : Option Nat} (h : w.grownBy a row) (g : Below a.heap.size a b) : w.grownBy b row := ⟨g.os.trans h.os, g.tape.trans h.tape, g.output.trans h.output, Nat.le_trans h.size g.size, fun i hi hne => (g.block i (Nat.lt_of_lt_of_le hi h.size)).trans (h.block i hi hne)⟩
/-- A mark: the letter m and a number. -/
def mtx (k : Nat) : ByteArray := ⟨(109 :: decDigits k).toArray⟩
theorem mtx_size {k : Nat} (h : k < 100000000) : (mtx k).size ≤ 10 := by
  have := dec_len 8 k (by omega)
  show (109 :: decDigits k).length ≤ 10
  rw [List.length_cons]; omega
theorem dgs_lenM {u : Nat} (h : u < 100000000) : (dgs u).length ≤ 10 := by
  unfold dgs
  split
  · simp
  · have := dec_len 9 u (by omega); omega
theorem mark_step {y : Int} {m : Nat} {r : ByteArray} (hy : y ≠ 0) (h0 : 0 ≤ y) (H : Hid (dgs y.natAbs ++ r.data.toList = dgs m)) :
    Hid (dgs (y / 10).natAbs ++ ((⟨#[UInt8.ofNat (48 + y % 10).toNat]⟩ : ByteArray) ++ r).data.toList = dgs m) := by
  have h := H.out
  rw [dgs_step (by omega)] at h
  show _ = _
  rw [show (y / 10).natAbs = y.natAbs / 10 by omega, ← h, ByteArray.data_append, Array.toList_append, show (48 + y % 10).toNat = 48 + y.natAbs % 10 by omega]
  simp
theorem conv1M (w : World) (T : TypeId) (c : Int) : (convert 38 9 (.slice (some ⟨w.heap.size, 0, none⟩) 1 1)).run Try.prog (w.alloc (.cells #[.int .u8 c] T)) = .ok (.string ⟨#[UInt8.ofNat c.toNat]⟩) (w.alloc (.cells #[.int .u8 c] T)) := by
  rw [run_convert_bytes_string _ _ _ 5 _ _ _ Try.underlying38 Try.underlying5 Try.underlying9,
    run_bytesToString _ _ _ _ [c] (by simp [go_sem, loadCells])]
  rfl
set_option maxHeartbeats 1600000 in
theorem markText_any (k : Nat) (w : World) (h1 : 1 ≤ k) (h2 : k < 100000000) : Calls Try.prog 59 #[.int .i64 (k : Int)] w fun e w' => e = .returned (.string (mtx k)) ∧ Below w.heap.size w w' := by
  have k0 : ¬ (k : Int) ≤ 0 := by omega
  have hcv := conv1M
  go_enter Try.func59, Try.ntmps59
  go_wp2_with fail
  go_loopw [0, 3] (fun kv ov wr => ∃ (r : ByteArray) (y : Int), ov = .string r ∧ kv = .int .i64 y ∧ Hid (dgs y.natAbs ++ r.data.toList = dgs k) ∧ 0 ≤ y ∧ y ≤ k ∧ r.size ≤ 20 ∧ Below w.heap.size w wr) (fun kv _ _ => (intOf kv).natAbs)
  case atStart => exact ⟨_, k, rfl, rfl, by simp [Hid], by omega, by omega, by show 0 ≤ 20; omega, Below.refl _ _⟩
  case round =>
    obtain ⟨r, y, rfl, rfl, H, hy0, hle, hr, hb⟩ := hrel
    by_cases hy : y = 0
    · subst hy
      have HE : Hid ((⟨#[109]⟩ : ByteArray) ++ r = mtx k) := Lib.hid (by
        have h := H.out
        have e1 : dgs (Int.natAbs 0) = [] := rfl
        have e2 : dgs k = decDigits k := if_neg (by omega)
        rw [e1, e2] at h
        have inj : ∀ {a b : ByteArray}, a.data.toList = b.data.toList → a = b := fun {a b} h => by
          obtain ⟨⟨l⟩⟩ := a; obtain ⟨⟨m⟩⟩ := b
          simp at h; rw [h]
        exact inj (by rw [ByteArray.data_append, Array.toList_append]; show [109] ++ r.data.toList = 109 :: decDigits k; rw [← h]; rfl))
      go_wp2_with fail
      go_ret
      exact ⟨ret_string HE.out, hb⟩
    · have y0 : (0 : Int) < y := by omega
      have y1 : y < 100000000 := by omega
      have T4 : Hid ((y / 10).natAbs = y.natAbs / 10) := Lib.hid (by omega)
      have H2 := mark_step hy hy0 H
      have HB : Hid (((⟨#[UInt8.ofNat (48 + y % 10).toNat]⟩ : ByteArray) ++ r).size ≤ 20) := Lib.hid (by
        have h := congrArg List.length H2.out
        rw [List.length_append, data_len] at h
        have h3 := dgs_lenM (u := k) (by omega)
        omega)
      go_wp2_with fail
      go_roundw
      case rel => exact ⟨_, _, rfl, rfl, H2, by omega, by omega, HB.out, hb.alloc hb.size _⟩
      case measure => show (y / 10).natAbs < y.natAbs; rw [T4.out]; omega
theorem vS_len : ∀ x : ByteArray, (vS x).length = 1 := fun _ => rfl
def marks (k n : Nat) : List ByteArray := (List.range n).map fun j => mtx (k + j)
theorem marks_succ (k n : Nat) : marks k (n + 1) = marks k n ++ [mtx (k + n)] := by unfold marks; rw [List.range_succ, List.map_append]; rfl
theorem marks_len (k n : Nat) : (marks k n).length = n := by unfold marks; simp
/-- Numbers as marks. -/
def marksI (k n : Nat) : List Int := (List.range n).map fun j => ((k + j : Nat) : Int)
theorem marksI_succ (k n : Nat) : marksI k (n + 1) = marksI k n ++ [((k + n : Nat) : Int)] := by unfold marksI; rw [List.range_succ, List.map_append]; rfl
theorem marksI_len (k n : Nat) : (marksI k n).length = n := by unfold marksI; simp
theorem marksI_set {k n : Nat} {xs : List Int} (h : n < xs.length) : ((marksI k n ++ xs.drop n).flatMap vI).set n (.int .i64 ((k + n : Nat) : Int)) = (marksI k (n + 1) ++ xs.drop (n + 1)).flatMap vI := by
  rw [flatMap_vI, flatMap_vI, marksI_succ, List.drop_eq_getElem_cons h, List.map_append, List.map_append]
  have hl : ((marksI k n).map (Value.int .i64)).length = n := by rw [List.length_map, marksI_len]
  rw [List.set_append_right _ _ (by omega), hl, Nat.sub_self, List.map_cons, List.set_cons_zero]
  simp only [List.map_append, List.map_cons, List.map_nil, List.append_assoc, List.cons_append, List.nil_append]
set_option maxHeartbeats 1600000 in
theorem markI_any (xs : List Int) (v : Value) (k base : Nat) (w : World) (h : Own w base 3 1 vI v xs) (h1 : 1 ≤ k) (h2 : k + xs.length < 100000000) (hbase : base ≤ w.heap.size) :
    Calls Try.prog 38 #[v, .int .i64 (k : Int)] w fun e w' => e = .returned (.int .i64 ((k + xs.length : Nat) : Int)) ∧ Own w' base 3 1 vI v (marksI k xs.length) ∧ w.grownBy w' v.ownBlock := by
  have hform := World.ownsRow.lt h
  rcases h.2 with ⟨rfl, h0⟩ | ⟨g, cap, cur, rfl, hbg, hg, hnc, hcm, hcs, htake⟩
  · have hx : xs = [] := List.eq_nil_of_length_eq_zero h0
    subst hx
    go_enter Try.func38, Try.ntmps38
    go_wp2_with fail
    go_loopw [1, 5] (fun kv iv wr => kv = .int .i64 (k : Int) ∧ iv = .int .i64 0 ∧ wr = w) (fun _ _ _ => 0)
    case atStart => exact ⟨rfl, rfl, rfl⟩
    case round =>
      obtain ⟨rfl, rfl, rfl⟩ := hrel
      go_wp2_with fail
      go_ret
      exact ⟨rfl, h, World.grownBy.refl _ _⟩
  · have hlt0 : g < w.heap.size := (hform g rfl).2
    unfold maxLen at hcm
    clear htake hcs hg hform
    go_enter Try.func38, Try.ntmps38
    go_wp2_with fail
    go_loopw [1, 5] (fun kv iv wr => ∃ n : Nat, n ≤ xs.length ∧ iv = .int .i64 n ∧ kv = .int .i64 ((k + n : Nat) : Int) ∧ wr.ownsRow base 3 1 (.slice (some ⟨g, 0, none⟩) xs.length cap) xs.length ((marksI k n ++ xs.drop n).flatMap vI) ∧ w.grownBy wr (some g)) (fun _ iv _ => xs.length - (intOf iv).toNat)
    case atStart => exact ⟨0, Nat.zero_le _, rfl, rfl, h, World.grownBy.refl _ _⟩
    case round =>
      obtain ⟨n, hn, rfl, rfl, hO, hG⟩ := hrel
      by_cases hlt : n < xs.length
      · have hGs := hG.size
        have e : (marksI k n ++ xs.drop n).length = xs.length := by rw [List.length_append, marksI_len, List.length_drop]; omega
        have hfr := hO.frozenAt n
        have hl : ((marksI k n ++ xs.drop n).flatMap vI).length = xs.length := by rw [flatMap_len vI_len, e]; omega
        obtain ⟨u0, hcell⟩ : ∃ u0, wr.cell? ⟨g, n, none⟩ = some u0 := ⟨_, (hO.cellAt n (by omega)).trans (List.getElem?_eq_getElem (by omega))⟩
        have hst := hO.stored n (.int .i64 ((k + n : Nat) : Int))
        rw [marksI_set hlt] at hst
        have HS := Lib.hid hst; clear hst e hl hO
        have hG2 : w.grownBy (wr.setCell ⟨g, n, none⟩ (.int .i64 ((k + n : Nat) : Int))) (some g) := grown_trans hG HS.out.2
        obtain ⟨z, hz⟩ : ∃ z : Int, z = ((k + n : Nat) : Int) := ⟨_, rfl⟩
        rw [← hz] at HS hG2 ⊢
        have z1 : 0 ≤ z := by omega
        have z2 : z < 100000000 := by omega
        have HZ := Lib.hid hz; clear hz hG
        go_wp2_with fail
        go_roundw
        case rel => exact ⟨n + 1, by omega, by go_num, by rw [HZ.out]; congr 1 <;> omega, HS.out.1, hG2⟩
        case measure => simp [intOf]; omega
      · obtain rfl : n = xs.length := by omega
        rw [List.drop_length, List.append_nil] at hO
        go_wp2_with fail
        go_ret
        refine ⟨rfl, ?_, hG⟩
        unfold Own; rw [marksI_len]; exact hO
/-- Marks in a row of legs: the row stays a row, nothing else turns. -/
theorem row_below {w w' : World} {base size n : Nat} {e : TypeId} {v : Value} {F : List Value} (h : w.ownsRow base e size v n F) (b : Below w.heap.size w w') : w'.ownsRow base e size v n F := by
  refine ⟨h.1, ?_⟩
  rcases h.2 with h0 | ⟨g, cap, cur, hv, hbg, hg, r⟩
  · exact .inl h0
  · exact .inr ⟨g, cap, cur, hv, hbg, by rw [b.block g (Array.getElem?_eq_some_iff.1 hg).1]; exact hg, r⟩
theorem row_set {w : World} {base size n g cap j : Nat} {e : TypeId} {F : List Value} (h : w.ownsRow base e size (.slice (some ⟨g, 0, none⟩) n cap) n F) (u : Value) : (w.setCell ⟨g, j, none⟩ u).ownsRow base e size (.slice (some ⟨g, 0, none⟩) n cap) n (F.set j u) ∧ w.grownBy (w.setCell ⟨g, j, none⟩ u) (some g) := h.stored j u
theorem row_cell {w : World} {base size n g cap j : Nat} {e : TypeId} {F : List Value} (h : w.ownsRow base e size (.slice (some ⟨g, 0, none⟩) n cap) n F) (hj : j < n * size) (hl : F.length = n * size) : ∃ u, w.cell? ⟨g, j, none⟩ = some u := ⟨_, (h.cellAt j hj).trans (List.getElem?_eq_getElem (by omega))⟩
set_option maxHeartbeats 3200000 in
theorem markLegs_any (xs : List LegD) (v : Value) (k base : Nat) (w : World) (h : Own w base 47 6 LegD.vals v xs) (h1 : 1 ≤ k) (h2 : k + 6 * xs.length < 100000000) (hbase : base ≤ w.heap.size) :
    Calls Try.prog 37 #[v, .int .i64 (k : Int)] w fun e w' => e = .returned (.int .i64 ((k + 6 * xs.length : Nat) : Int)) ∧ w.grownBy w' v.ownBlock := by
  have hform := World.ownsRow.lt h
  rcases h.2 with ⟨rfl, h0⟩ | ⟨g, cap, cur, rfl, hbg, hg, hnc, hcm, hcs, htake⟩
  · have hx : xs = [] := List.eq_nil_of_length_eq_zero h0
    subst hx
    go_enter Try.func37, Try.ntmps37
    go_wp2_with fail
    go_loopw [1, 5] (fun kv iv wr => kv = .int .i64 (k : Int) ∧ iv = .int .i64 0 ∧ wr = w) (fun _ _ _ => 0)
    case atStart => exact ⟨rfl, rfl, rfl⟩
    case round =>
      obtain ⟨rfl, rfl, rfl⟩ := hrel
      go_wp2_with fail
      go_ret
      exact ⟨rfl, World.grownBy.refl _ _⟩
  · have hlt0 : g < w.heap.size := (hform g rfl).2
    unfold maxLen at hcm
    clear htake hcs hg hform
    have hl0 : (xs.flatMap LegD.vals).length = xs.length * 6 := flatMap_len (show ∀ x : LegD, x.vals.length = 6 from fun _ => rfl) xs
    have HL0 := Lib.hid hl0; clear hl0
    go_enter Try.func37, Try.ntmps37
    go_wp2_with fail
    go_loopw [1, 5] (fun kv iv wr => ∃ (n : Nat) (F : List Value), n ≤ xs.length ∧ iv = .int .i64 n ∧ kv = .int .i64 ((k + 6 * n : Nat) : Int) ∧ wr.ownsRow base 47 6 (.slice (some ⟨g, 0, none⟩) xs.length cap) xs.length F ∧ Hid (F.length = xs.length * 6) ∧ w.grownBy wr (some g)) (fun _ iv _ => xs.length - (intOf iv).toNat)
    case atStart => exact ⟨0, _, Nat.zero_le _, rfl, rfl, h, HL0, World.grownBy.refl _ _⟩
    case round =>
      obtain ⟨n, F, hn, rfl, rfl, hO, HF, hG⟩ := hrel
      by_cases hlt : n < xs.length
      · have n0 : (0 : Int) ≤ (n : Int) := by omega
        have n1 : (n : Int) < (xs.length : Int) := by omega
        obtain ⟨z, hz⟩ : ∃ z : Int, z = ((k + 6 * n : Nat) : Int) := ⟨_, rfl⟩
        rw [← hz]
        have z1 : 0 ≤ z := by omega
        have z2 : z < 100000000 := by omega
        have HZ := Lib.hid hz; clear hz
        have n2 : (n : Int) < (cap : Int) := by omega
        have MT0 := fun W => markText_any (k + 6 * n) W (by omega) (by omega)
        have MT1 := fun W => markText_any (k + 6 * n + 1) W (by omega) (by omega)
        rw [show ((k + 6 * n : Nat) : Int) = z by rw [HZ.out]] at MT0
        rw [show ((k + 6 * n + 1 : Nat) : Int) = z + 1 by rw [HZ.out]; omega] at MT1
        generalize mtx (k + 6 * n) = t0 at MT0
        generalize mtx (k + 6 * n + 1) = t1 at MT1
        go_wp2_with fail
        refine (MT0 _).mono ?_
        rintro e w0 ⟨rfl, b0⟩
        clear MT0
        have hO0 := row_below hO b0
        have hG0 := grown_below hG b0
        clear b0 hO hG
        obtain ⟨q0, c0⟩ := row_cell hO0 (j := n * 6) (by omega) HF.out
        have f0 := hO0.frozenAt (n * 6)
        obtain ⟨O1, G1⟩ := row_set hO0 (j := n * 6) (.string t0)
        have hG1 := grown_trans hG0 G1
        have HO := Lib.hid O1; have HG := Lib.hid hG1
        clear O1 hG1 hG0 G1 hO0
        go_wp2_with fail
        refine (MT1 _).mono ?_
        rintro e w1 ⟨rfl, b1⟩
        clear MT1 c0 f0
        have hO1 := row_below HO.out b1
        have hG1 := grown_below HG.out b1
        clear b1 HO HG
        have hl : (F.set (n * 6) (.string t0)).length = xs.length * 6 := by rw [List.length_set]; exact HF.out
        generalize F.set (n * 6) (.string t0) = F1 at hO1 hl
        obtain ⟨q1, c1⟩ := row_cell hO1 (j := n * 6 + 1) (by omega) hl
        obtain ⟨q2, c2⟩ := row_cell hO1 (j := n * 6 + 2) (by omega) hl
        obtain ⟨q3, c3⟩ := row_cell hO1 (j := n * 6 + 3) (by omega) hl
        obtain ⟨q4, c4⟩ := row_cell hO1 (j := n * 6 + 4) (by omega) hl
        obtain ⟨q5, c5⟩ := row_cell hO1 (j := n * 6 + 5) (by omega) hl
        have ff : ∀ j, w1.frozen? ⟨g, j, none⟩ = false := hO1.frozenAt
        have RS := fun (u1 u2 u3 u4 u5 : Value) => (row_set (row_set (row_set (row_set (row_set hO1 (j := n * 6 + 1) u1).1 (j := n * 6 + 2) u2).1 (j := n * 6 + 3) u3).1 (j := n * 6 + 4) u4).1 (j := n * 6 + 5) u5).1
        have GS := fun (u1 u2 u3 u4 u5 : Value) => grown_trans (grown_trans (grown_trans (grown_trans (grown_trans hG1 (row_set hO1 (j := n * 6 + 1) u1).2) (row_set (row_set hO1 (j := n * 6 + 1) u1).1 (j := n * 6 + 2) u2).2) (row_set (row_set (row_set hO1 (j := n * 6 + 1) u1).1 (j := n * 6 + 2) u2).1 (j := n * 6 + 3) u3).2) (row_set (row_set (row_set (row_set hO1 (j := n * 6 + 1) u1).1 (j := n * 6 + 2) u2).1 (j := n * 6 + 3) u3).1 (j := n * 6 + 4) u4).2) (row_set (row_set (row_set (row_set (row_set hO1 (j := n * 6 + 1) u1).1 (j := n * 6 + 2) u2).1 (j := n * 6 + 3) u3).1 (j := n * 6 + 4) u4).1 (j := n * 6 + 5) u5).2
        have R5 := Lib.hid RS
        have G5 := Lib.hid GS
        have HL5 := Lib.hid hl
        clear RS GS hl hO1 hG1
        go_wp2_with fail
        go_roundw
        case rel => exact ⟨n + 1, _, by omega, by go_num, by rw [HZ.out]; congr 1 <;> omega, R5.out _ _ _ _ _, Lib.hid (by simp only [List.length_set]; exact HL5.out), G5.out _ _ _ _ _⟩
        case measure => simp [intOf]; omega
      · obtain rfl : n = xs.length := by omega
        go_wp2_with fail
        go_ret
        exact ⟨rfl, hG⟩
end Go.Proofs.Ytdmeinfdldiegaa
